/- Floats that are whole numbers: operations on them, as on the whole numbers. -/
import Derived.Test.YtlinfpchnonbpaaGreatDoorEvIv
import Derived.Test.YtlinfpchnonbpaaGreatDoorFDivN
namespace Go.Ev
open Go.RowKit (Below)
def wholeC (c : Nat) : Option Int :=
  match (FloatKind.f64.decode c).toInt .zero with
  | some m => bif decide (-9007199254740992 ≤ m) && (decide (m ≤ 9007199254740992) && (Nat.beq c (FloatKind.f64.nearest m) || (decide (m = 0) && Nat.beq c 9223372036854775808))) then some m else none
  | none => none
theorem wholeC_ok {c : Nat} {m : Int} (h : wholeC c = some m) : WholeF m c := by
  unfold wholeC at h
  split at h
  · rename_i m' _
    cases hc : decide (-9007199254740992 ≤ m') && (decide (m' ≤ 9007199254740992) && (Nat.beq c (FloatKind.f64.nearest m') || (decide (m' = 0) && Nat.beq c 9223372036854775808))) with
    | false => rw [hc] at h; cases h
    | true =>
      rw [hc] at h
      simp only [cond_true, Option.some.injEq] at h; subst h
      simp only [Bool.and_eq_true, decide_eq_true_eq, Bool.or_eq_true] at hc
      obtain ⟨h1, h2, h3⟩ := hc
      refine ⟨by omega, by omega, ?_⟩
      rcases h3 with h3 | ⟨h3, h4⟩
      · exact .inl (Nat.eq_of_beq_eq_true h3)
      · exact .inr ⟨h3, Nat.eq_of_beq_eq_true h4⟩
  · cases h
def wholeFact (f : Nat) : List Fact_ → Option (SV × Bool)
  | [] => none
  | q :: r => match q with
    | ⟨.i2f .f64, [n], .sym g⟩ => bif Nat.beq f g then some (n, true) else wholeFact f r
    | ⟨.whole, [n], .sym g⟩ => bif Nat.beq f g then some (n, false) else wholeFact f r
    | _ => wholeFact f r
theorem wholeFact_mem {f : Nat} : ∀ {l : List Fact_} {n : SV} {e : Bool}, wholeFact f l = some (n, e) → (e = true ∧ (⟨.i2f .f64, [n], .sym f⟩ : Fact_) ∈ l) ∨ (e = false ∧ (⟨.whole, [n], .sym f⟩ : Fact_) ∈ l)
  | [], _, _, h => by cases h
  | q :: r, n, e, h => by
    have go : wholeFact f r = some (n, e) → (e = true ∧ (⟨.i2f .f64, [n], .sym f⟩ : Fact_) ∈ q :: r) ∨ (e = false ∧ (⟨.whole, [n], .sym f⟩ : Fact_) ∈ q :: r) := fun h =>
      (wholeFact_mem h).imp (fun h => ⟨h.1, List.mem_cons_of_mem _ h.2⟩) (fun h => ⟨h.1, List.mem_cons_of_mem _ h.2⟩)
    simp only [wholeFact] at h
    split at h
    · rename_i m g
      cases hb : Nat.beq f g with
      | true =>
        rw [hb] at h
        simp only [cond_true, Option.some.injEq, Prod.mk.injEq] at h
        obtain ⟨rfl, rfl⟩ := h
        have := Nat.eq_of_beq_eq_true hb; subst this
        exact .inl ⟨rfl, List.mem_cons_self⟩
      | false => rw [hb] at h; exact go h
    · rename_i m g
      cases hb : Nat.beq f g with
      | true =>
        rw [hb] at h
        simp only [cond_true, Option.some.injEq, Prod.mk.injEq] at h
        obtain ⟨rfl, rfl⟩ := h
        have := Nat.eq_of_beq_eq_true hb; subst this
        exact .inr ⟨rfl, List.mem_cons_self⟩
      | false => rw [hb] at h; exact go h
    · exact go h
structure Wh where
  n : SV
  ex : Bool
  lo : Int
  hi : Int
def okBd (lo hi : Int) : Bool := decide (-9007199254740992 ≤ lo) && decide (hi ≤ 9007199254740992)
def wholeOf (S : St) (x : SV) : Option Wh :=
  match x with
  | .val (.float .f64 c) => match wholeC c with
    | some m => some ⟨.val (.int .i64 m), Nat.beq c (FloatKind.f64.nearest m), m, m⟩
    | none => none
  | .sym f => match wholeFact f S.facts with
    | some (n, ex) => match bdOf S n with
      | some (.i64, lo, hi) => bif okBd lo hi then some ⟨n, ex, lo, hi⟩ else none
      | _ => none
    | none => none
  | _ => none
section
variable {B G : Nat} {w0 : Start} {E : Env} {S : St} {w : World} {P : Program}
structure WhOK (E : Env) (x : Wh) (v : Value) (m : Int) (f : Nat) : Prop where
  n : x.n.den E = some (.int .i64 m)
  v : v = .float .f64 f
  w : WholeF m f
  ex : x.ex = true → f = FloatKind.f64.nearest m
  lo : x.lo ≤ m
  hi : m ≤ x.hi
theorem wholeOf_ok (hr : Rel B G w0 E S w) {x : SV} {q : Wh} {v : Value} (h : wholeOf S x = some q) (hx : x.den E = some v) : ∃ m f, WhOK E q v m f := by
  unfold wholeOf at h
  split at h
  · rename_i c
    split at h
    · rename_i m hm
      simp only [Option.some.injEq] at h; subst h
      simp only [SV.den, Option.some.injEq] at hx; subst hx
      exact ⟨m, c, { n := by simp only [SV.den], v := rfl, w := wholeC_ok hm, ex := fun h => Nat.eq_of_beq_eq_true h, lo := Int.le_refl _, hi := Int.le_refl _ }⟩
    · cases h
  · rename_i f
    simp only [SV.den] at hx
    split at h
    · rename_i n ex hf
      split at h
      · rename_i lo hi hb
        cases ho : okBd lo hi with
        | false => rw [ho] at h; cases h
        | true =>
          rw [ho] at h
          simp only [cond_true, Option.some.injEq] at h; subst h
          unfold okBd at ho
          simp only [Bool.and_eq_true, decide_eq_true_eq] at ho
          rcases wholeFact_mem hf with ⟨rfl, hm⟩ | ⟨rfl, hm⟩
          · obtain ⟨vs, u, h1, h2, h3⟩ := hr.facts _ hm
            obtain ⟨y, l, h4, h5, rfl⟩ := denL_cons h1
            simp only [SV.denL, Option.some.injEq] at h5; subst h5
            simp only [SV.den] at h2
            rw [hx] at h2; cases h2
            obtain ⟨m, rfl, b1, b2⟩ := bdOf_ok hr.env hb h4
            have h3 : sopFun (.i2f .f64) [.int .i64 m] = some v := h3
            simp only [sopFun, Option.some.injEq] at h3
            exact ⟨m, _, { n := h4, v := h3.symm, w := .near (by omega) (by omega), ex := fun _ => rfl, lo := b1, hi := b2 }⟩
          · obtain ⟨vs, u, h1, h2, h3⟩ := hr.facts _ hm
            obtain ⟨y, l, h4, h5, rfl⟩ := denL_cons h1
            simp only [SV.denL, Option.some.injEq] at h5; subst h5
            simp only [SV.den] at h2
            rw [hx] at h2; cases h2
            obtain ⟨m, rfl, b1, b2⟩ := bdOf_ok hr.env hb h4
            have h3 : wholeRel [.int .i64 m] v := h3
            obtain ⟨g, h3, h6⟩ := h3
            exact ⟨m, g, { n := h4, v := h3, w := h6, ex := fun h => (by cases h), lo := b1, hi := b2 }⟩
      · cases h
    · cases h
  · cases h
def mkWhole (S : St) (n : SV) (ex : Bool) (lo hi : Int) : SV × St :=
  bif ex || (decide (0 < lo) || decide (hi < 0)) then
    (match n with
    | .val (.int .i64 m) => (.val (.float .f64 (FloatKind.f64.nearest m)), S)
    | n => known S (.float .f64) (.i2f .f64) [n])
  else freshS S (.float .f64) .whole [n]
theorem mkWhole_ok (hr : Rel B G w0 E S w) {n : SV} {ex : Bool} {lo hi m : Int} {f : Nat} (hn : n.den E = some (.int .i64 m)) (hw : WholeF m f) (hex : ex = true → f = FloatKind.f64.nearest m) (h1 : lo ≤ m) (h2 : m ≤ hi) :
    ∃ F, E.le F ∧ Rel B G w0 F (mkWhole S n ex lo hi).2 w ∧ (mkWhole S n ex lo hi).1.den F = some (.float .f64 f) := by
  unfold mkWhole
  cases hc : ex || (decide (0 < lo) || decide (hi < 0)) with
  | true =>
    simp only [cond_true]
    have hf : f = FloatKind.f64.nearest m := by
      simp only [Bool.or_eq_true, decide_eq_true_eq] at hc
      rcases hc with h | h | h
      · exact hex h
      · exact hw.exact (by omega)
      · exact hw.exact (by omega)
    split
    · simp only [SV.den, Option.some.injEq, Value.int.injEq, true_and] at hn
      subst hn
      exact ⟨E, E.le_refl, hr, by simp only [SV.den, hf]⟩
    · exact known_ok hr (bound_i2f .f64) (denL_mk hn (r := []) rfl) ⟨f, rfl⟩ (by show sopFun (.i2f .f64) _ = _; simp only [sopFun, hf])
  | false =>
    obtain ⟨g1, g2, g3⟩ := fresh_ok hr (srt := .float .f64) (op := .whole) (v := .float .f64 f) (denL_mk hn (r := []) rfl) ⟨f, rfl⟩ ⟨f, rfl, hw⟩
    exact ⟨_, g1, g2, g3⟩
def sameAns (op : BinOp) : Option Bool :=
  match op with
  | .eql | .leq | .geq => some true
  | .neq | .lss | .gtr => some false
  | _ => none
def ivCmp (S : St) (op : BinOp) (x y : SV) : Option (SV × St) :=
  bif isCmp op then
    (match evIntCmp S op x y with
    | some v => some (v, S)
    | none => match sameArg x y, sameAns op with
      | true, some b => some (.val (.bool b), S)
      | _, _ => some (known S .bool (.int op .i64) [x, y]))
  else none
theorem evIntCmp_val (hr : ERel E S) {op : BinOp} {x y sv : SV} {k : IntKind} {a b : Int} (h : evIntCmp S op x y = some sv) (hx : x.den E = some (.int k a)) (hy : y.den E = some (.int k b)) : ∃ c, sv = .val (.bool c) ∧ ibin op k a b = some (.bool c) := by
  unfold evIntCmp at h
  split at h
  · rename_i k1 lx ux k2 ly uy h1 h2
    obtain ⟨n, e1, hn1, hn2⟩ := intOf_ok hr h1 hx
    obtain ⟨m, e2, hm1, hm2⟩ := intOf_ok hr h2 hy
    cases e1; cases e2
    simp only at hn1 hn2 hm1 hm2
    simp only [decide_true, cond_true] at h
    split at h
    · rename_i b hb
      simp only [Option.some.injEq] at h; subst h
      exact ⟨b, rfl, ordAns_ok _ hb hn1 hn2 hm1 hm2⟩
    · cases h
  · cases h
theorem ivCmp_ok (hr : Rel B G w0 E S w) {op : BinOp} {x y sv : SV} {S' : St} {a b : Int} (h : ivCmp S op x y = some (sv, S')) (hx : x.den E = some (.int .i64 a)) (hy : y.den E = some (.int .i64 b)) :
    ∃ c F, isCmp op = true ∧ ibin op .i64 a b = some (.bool c) ∧ E.le F ∧ Rel B G w0 F S' w ∧ sv.den F = some (.bool c) := by
  unfold ivCmp at h
  cases hc : isCmp op with
  | false => rw [hc] at h; cases h
  | true =>
    rw [hc] at h
    simp only [cond_true] at h
    split at h
    · rename_i v hv
      simp only [Option.some.injEq, Prod.mk.injEq] at h
      obtain ⟨rfl, rfl⟩ := h
      obtain ⟨c, rfl, e⟩ := evIntCmp_val hr.env hv hx hy
      exact ⟨c, E, rfl, e, E.le_refl, hr, by simp only [SV.den]⟩
    · split at h
      · rename_i c hs ha
        simp only [Option.some.injEq, Prod.mk.injEq] at h
        obtain ⟨rfl, rfl⟩ := h
        have := sameArg_eq hs
        subst this
        rw [hx] at hy; cases hy
        refine ⟨c, E, rfl, ?_, E.le_refl, hr, by simp only [SV.den]⟩
        cases op <;> simp only [sameAns, reduceCtorEq, Option.some.injEq] at ha <;> subst ha <;> simp [ibin]
      · simp only [Option.some.injEq] at h
        obtain ⟨c, e1, _⟩ := int_cmp_run (P := w0.P) hc (t := 0) (k := .i64) (a := a) (b := b) (ox := .const undef) (oy := .const undef)
        have e1' := e1
        have hns : intV op .i64 a .i64 b = ibin op .i64 a b := by cases op <;> simp only [isCmp, Bool.false_eq_true] at hc <;> rfl
        obtain ⟨F, f1, f2, f3⟩ := known_ok hr (srt := .bool) (v := .bool c) (bound_int op .i64) (denL_mk hx (denL_mk hy (r := []) rfl)) ⟨c, rfl⟩ (rel_int e1)
        rw [h] at f2 f3
        exact ⟨c, F, rfl, by rw [← hns]; exact e1', f1, f2, f3⟩
def fB (op : BinOp) (x y : Nat) : Bool := match fcmpV op .f64 x y with
  | some (.bool b) => b
  | _ => false
def constAns (op : BinOp) (lo hi : Int) (c : Nat) : Option Bool :=
  let a := FloatKind.f64.nearest lo
  let b := FloatKind.f64.nearest hi
  match op with
  | .lss => twoWays (fB .lss b c) (fB .geq a c)
  | .leq => twoWays (fB .leq b c) (fB .gtr a c)
  | .gtr => twoWays (fB .gtr a c) (fB .leq b c)
  | .geq => twoWays (fB .geq a c) (fB .lss b c)
  | .eql => twoWays false (fB .lss b c || fB .gtr a c)
  | .neq => twoWays (fB .lss b c || fB .gtr a c) false
  | _ => none
def finC (c : Nat) : Bool := Nat.blt (c % 9223372036854775808) 9218868437227405312
theorem finC_ok {c : Nat} (h : finC c = true) : Fin64 c := by
  have := Nat.le_of_ble_eq_true h
  unfold Fin64
  exact this
theorem fB_ok {op : BinOp} {x y : Nat} (hx : Fin64 x) (hy : Fin64 y) (hc : isCmp op = true) (h : fB op x y = true) : ibin op .i64 (sv x) (sv y) = some (.bool true) := by
  unfold fB at h
  rw [cmp_sv hx hy hc (k := .i64)] at h
  split at h
  · rename_i b hb; rw [hb, h]
  · cases h
theorem constAns_ok {op : BinOp} {lo hi m : Int} {c f : Nat} {b : Bool} (h : constAns op lo hi c = some b) (hc : Fin64 c) (hw : WholeF m f) (h1 : lo ≤ m) (h2 : m ≤ hi) (hl : -(2 ^ 53) ≤ lo) (hh : hi ≤ 2 ^ 53) : fcmpV op .f64 f c = some (.bool b) ∧ isCmp op = true := by
  obtain ⟨f1, s1, _⟩ := whole_sv hw
  obtain ⟨a1, a2⟩ := nearest_int hl (show lo ≤ 2 ^ 53 by have := hw.2.1; omega)
  obtain ⟨b1, b2⟩ := nearest_int (show -(2 ^ 53) ≤ hi by have := hw.1; omega) hh
  have hK := KK_pos
  have m1 : sv (FloatKind.f64.nearest lo) ≤ sv f := by rw [a2, s1]; exact Int.mul_le_mul_of_nonneg_right h1 (Int.le_of_lt hK)
  have m2 : sv f ≤ sv (FloatKind.f64.nearest hi) := by rw [b2, s1]; exact Int.mul_le_mul_of_nonneg_right h2 (Int.le_of_lt hK)
  have key : ∀ o : BinOp, isCmp o = true → fcmpV o .f64 f c = ibin o .i64 (sv f) (sv c) := fun o ho => cmp_sv f1 hc ho
  have lss : fB .lss (FloatKind.f64.nearest hi) c = true → sv f < sv c := fun h => by have := fB_ok b1 hc rfl h; simp only [ibin, Option.some.injEq, Value.bool.injEq, decide_eq_true_eq] at this; omega
  have leq : fB .leq (FloatKind.f64.nearest hi) c = true → sv f ≤ sv c := fun h => by have := fB_ok b1 hc rfl h; simp only [ibin, Option.some.injEq, Value.bool.injEq, decide_eq_true_eq] at this; omega
  have gtr : fB .gtr (FloatKind.f64.nearest lo) c = true → sv c < sv f := fun h => by have := fB_ok a1 hc rfl h; simp only [ibin, Option.some.injEq, Value.bool.injEq, decide_eq_true_eq] at this; omega
  have geq : fB .geq (FloatKind.f64.nearest lo) c = true → sv c ≤ sv f := fun h => by have := fB_ok a1 hc rfl h; simp only [ibin, Option.some.injEq, Value.bool.injEq, decide_eq_true_eq] at this; omega
  have ne : (fB .lss (FloatKind.f64.nearest hi) c || fB .gtr (FloatKind.f64.nearest lo) c) = true → (sv f == sv c) = false := fun h => by
    simp only [Bool.or_eq_true] at h
    have : sv f ≠ sv c := by rcases h with h | h
                             · have := lss h; omega
                             · have := gtr h; omega
    simpa using this
  cases op <;> simp only [constAns, reduceCtorEq] at h <;> refine ⟨?_, rfl⟩ <;> rw [key _ rfl] <;> rcases twoWays_ok h with ⟨rfl, h'⟩ | ⟨rfl, h'⟩
  all_goals simp only [ibin, Option.some.injEq, Value.bool.injEq]
  all_goals first
    | (cases h'; done)
    | exact ne h'
    | (have := ne h'; simp only [bne, this]; rfl)
    | (have := lss h'; simp; omega)
    | (have := gtr h'; simp; omega)
    | (have := leq h'; simp; omega)
    | (have := geq h'; simp; omega)
def flipOp (op : BinOp) : BinOp :=
  match op with
  | .lss => .gtr
  | .leq => .geq
  | .gtr => .lss
  | .geq => .leq
  | o => o
theorem flip_fcmp {op : BinOp} {x y : Nat} (hx : Fin64 x) (hy : Fin64 y) (hc : isCmp op = true) : fcmpV op .f64 x y = fcmpV (flipOp op) .f64 y x := by
  rw [cmp_sv hx hy hc (k := .i64), cmp_sv hy hx (by cases op <;> simp only [isCmp, Bool.false_eq_true] at hc <;> rfl) (k := .i64)]
  have : (sv x == sv y) = (sv y == sv x) := by rw [Bool.eq_iff_iff, beq_iff_eq, beq_iff_eq]; exact eq_comm
  cases op <;> simp only [isCmp, Bool.false_eq_true] at hc <;> simp only [ibin, flipOp, this, bne, gt_iff_lt, ge_iff_le]
def exBin (op : BinOp) (x y : Wh) : Bool :=
  match op with
  | .add | .sub => x.ex && y.ex
  | .mul => x.ex && (y.ex && (decide (0 ≤ x.lo) && decide (0 ≤ y.lo)))
  | _ => false
def isRing : BinOp → Bool
  | .add | .sub | .mul => true
  | _ => false
def evIvBin (S : St) (op : BinOp) (x y : SV) : Option (SV × St) :=
  match wholeOf S x, wholeOf S y with
  | some p, some q => bif isCmp op then ivCmp S op p.n q.n else bif isRing op then
      (match ivArith S op p.n q.n with
      | none => none
      | some (m, S1) => match bdOf S1 m with
        | some (.i64, lo, hi) => bif okBd lo hi then some (mkWhole S1 m (exBin op p q) lo hi) else none
        | _ => none) else none
  | some p, none => match y with
    | .val (.float .f64 c) => bif finC c && okBd p.lo p.hi then (match constAns op p.lo p.hi c with
      | some b => some (.val (.bool b), S)
      | none => none) else none
    | _ => none
  | none, some q => match x with
    | .val (.float .f64 c) => bif finC c && (okBd q.lo q.hi && isCmp op) then (match constAns (flipOp op) q.lo q.hi c with
      | some b => some (.val (.bool b), S)
      | none => none) else none
    | _ => none
  | none, none => ivArith S op x y
theorem far_exact {op : BinOp} (h : isFar op = true) {t : TypeId} {a b r : Nat} {ox oy : Operand} (hv : farV op .f64 a b = some (some r)) (hr : Rel B G w0 E S w) :
    ∃ w', (do eqGuard op t ox oy (.float .f64 a) (.float .f64 b); binOp op t (.float .f64 a) (.float .f64 b) : Sem Value).run P w = .ok (.float .f64 r) w' ∧ Rel B G w0 E S w' := by
  obtain ⟨v, w', e1, e2, e3, c, e4⟩ := far_run (P := P) h (t := t) (a := a) (b := b) (ox := ox) (oy := oy) w
  have hr' : Rel B G w0 E S w' := by
    rcases e2 with rfl | rfl
    · exact hr
    · exact rel_drew hr
  obtain ⟨r', k1, k2⟩ := e3
  rw [hv] at k1
  simp only [Option.some.injEq] at k1; subst k1
  rcases k2 with ⟨b', k3, k4⟩ | ⟨k3, _⟩
  · simp only [Option.some.injEq] at k3; subst k3
    exact ⟨w', by rw [e1, k4], hr'⟩
  · cases k3
theorem evIvBin_ok (hr : Rel B G w0 E S w) {op : BinOp} {t : TypeId} {x y sv : SV} {S' : St} {ox oy : Operand} {vx vy : Value} (h : evIvBin S op x y = some (sv, S')) (hx : x.den E = some vx) (hy : y.den E = some vy) :
    Does B G w0 P E sv S' (do eqGuard op t ox oy vx vy; binOp op t vx vy) w := by
  unfold evIvBin at h
  split at h
  · rename_i p q hp hq
    obtain ⟨a, f, ka⟩ := wholeOf_ok hr hp hx
    obtain ⟨b, g, kb⟩ := wholeOf_ok hr hq hy
    have e1 := ka.v; have e2 := kb.v
    subst e1 e2
    cases hc : isCmp op with
    | true =>
      rw [hc] at h
      simp only [cond_true] at h
      obtain ⟨c, F, _, e3, f1, f2, f3⟩ := ivCmp_ok hr h ka.n kb.n
      obtain ⟨c', e4, e5⟩ := float_cmp_run (P := P) hc (t := t) (k := .f64) (a := f) (b := g) (ox := ox) (oy := oy)
      rw [cmp_whole ka.w kb.w hc (k := .i64), e3] at e4
      simp only [Option.some.injEq, Value.bool.injEq] at e4; subst e4
      exact ⟨F, _, w, f1, f2, f3, e5 w⟩
    | false =>
    rw [hc] at h
    simp only [cond_false] at h
    cases hring : isRing op with
    | false => rw [hring] at h; cases h
    | true =>
    rw [hring] at h
    simp only [cond_true] at h
    split at h
    · cases h
    rename_i m S1 hm
    obtain ⟨k1, a', k2, b', c, F, e3, e4, e5, e6, f1, f2, f3⟩ := ivArith_ok hr hm ka.n kb.n
    cases e3; cases e4
    split at h
    case h_2 => cases h
    rename_i lo hi hb
    cases ho : okBd lo hi with
    | false => rw [ho] at h; cases h
    | true =>
    rw [ho] at h
    simp only [cond_true, Option.some.injEq] at h
    unfold okBd at ho
    simp only [Bool.and_eq_true, decide_eq_true_eq] at ho
    obtain ⟨c', e7, b1, b2⟩ := bdOf_ok f2.env hb f3
    cases e7
    have key : ∃ r, farV op .f64 f g = some (some r) ∧ WholeF c r ∧ (exBin op p q = true → r = FloatKind.f64.nearest c) ∧ isFar op = true := by
      cases op <;> simp only [isRing, Bool.false_eq_true] at hring <;> simp only [intxV, Option.some.injEq] at e6 <;> subst e6
      case add =>
        obtain ⟨r, r1, r2, r3⟩ := add_whole ka.w kb.w (by omega) (by omega)
        exact ⟨r, by simp only [farV]; exact congrArg some r1, r2, fun he => by simp only [exBin, Bool.and_eq_true] at he; exact r3 (ka.ex he.1) (kb.ex he.2), rfl⟩
      case sub =>
        obtain ⟨r, r1, r2, r3⟩ := sub_whole ka.w kb.w (by omega) (by omega)
        exact ⟨r, by simp only [farV]; exact congrArg some r1, r2, fun he => by simp only [exBin, Bool.and_eq_true] at he; exact r3 (ka.ex he.1) (kb.ex he.2), rfl⟩
      case mul =>
        obtain ⟨r, r1, r2⟩ := mul_whole ka.w kb.w (by omega) (by omega)
        refine ⟨r, by simp only [farV]; exact congrArg some r1, r2, fun he => ?_, rfl⟩
        simp only [exBin, Bool.and_eq_true, decide_eq_true_eq] at he
        obtain ⟨x1, x2, x3, x4⟩ := he
        have := mul_exact (ka.ex x1) (kb.ex x2) (Int.le_trans x3 ka.lo) (Int.le_trans x4 kb.lo) ka.w.2.1 kb.w.2.1 (by omega)
        rw [r1] at this
        exact Option.some.inj this
    obtain ⟨r, r1, r2, r3, r4⟩ := key
    obtain ⟨F2, g1, g2, g3⟩ := mkWhole_ok f2 f3 r2 r3 b1 b2
    rw [h] at g2 g3
    obtain ⟨w', e8, hr'⟩ := far_exact (P := P) r4 (t := t) (ox := ox) (oy := oy) r1 g2
    exact ⟨F2, _, w', Env.le_trans f1 g1, hr', g3, e8⟩
  · rename_i p hp hnn
    split at h
    case h_2 => cases h
    rename_i c
    obtain ⟨a, f, ka⟩ := wholeOf_ok hr hp hx
    have e1 := ka.v
    subst e1
    simp only [SV.den, Option.some.injEq] at hy; subst hy
    cases hb : finC c && okBd p.lo p.hi with
    | false => rw [hb] at h; cases h
    | true =>
    rw [hb] at h
    simp only [cond_true] at h
    unfold okBd at hb
    simp only [Bool.and_eq_true, decide_eq_true_eq] at hb
    split at h
    case h_2 => cases h
    rename_i b hca
    simp only [Option.some.injEq, Prod.mk.injEq] at h
    obtain ⟨rfl, rfl⟩ := h
    obtain ⟨e2, e3⟩ := constAns_ok hca (finC_ok hb.1) ka.w ka.lo ka.hi (by omega) (by omega)
    obtain ⟨c', e4, e5⟩ := float_cmp_run (P := P) e3 (t := t) (k := .f64) (a := f) (b := c) (ox := ox) (oy := oy)
    rw [e2] at e4
    simp only [Option.some.injEq, Value.bool.injEq] at e4; subst e4
    exact ⟨E, _, w, E.le_refl, hr, by simp only [SV.den], e5 w⟩
  · rename_i q hnn hq
    split at h
    case h_2 => cases h
    rename_i c
    obtain ⟨a, f, ka⟩ := wholeOf_ok hr hq hy
    have e1 := ka.v
    subst e1
    simp only [SV.den, Option.some.injEq] at hx; subst hx
    cases hb : finC c && (okBd q.lo q.hi && isCmp op) with
    | false => rw [hb] at h; cases h
    | true =>
    rw [hb] at h
    simp only [cond_true] at h
    unfold okBd at hb
    simp only [Bool.and_eq_true, decide_eq_true_eq] at hb
    split at h
    case h_2 => cases h
    rename_i b hca
    simp only [Option.some.injEq, Prod.mk.injEq] at h
    obtain ⟨rfl, rfl⟩ := h
    obtain ⟨e2, _⟩ := constAns_ok hca (finC_ok hb.1) ka.w ka.lo ka.hi (by omega) (by omega)
    obtain ⟨c', e4, e5⟩ := float_cmp_run (P := P) hb.2.2 (t := t) (k := .f64) (a := c) (b := f) (ox := ox) (oy := oy)
    rw [flip_fcmp (finC_ok hb.1) (whole_sv ka.w).1 hb.2.2, e2] at e4
    simp only [Option.some.injEq, Value.bool.injEq] at e4; subst e4
    exact ⟨E, _, w, E.le_refl, hr, by simp only [SV.den], e5 w⟩
  · obtain ⟨k, a, k', b, c, F, rfl, rfl, e3, e4, f1, f2, f3⟩ := ivArith_ok hr h hx hy
    refine ⟨F, _, w, f1, f2, f3, ?_⟩
    by_cases hsh : isShift op = true
    · have hb0 : 0 ≤ b := by
        cases op <;> simp only [isShift, Bool.false_eq_true] at hsh <;> simp only [intxV] at e4 <;> split at e4 <;> first | (cases e4; done) | omega
      obtain ⟨n, rfl⟩ := Int.eq_ofNat_of_zero_le hb0
      obtain ⟨c', e5, e6⟩ := int_shift_run (P := P) hsh (t := t) (k := k) (k' := k') (a := a) (n := n) (ox := ox) (oy := oy)
      have e5 : intV op k a k' n = some (.int k c') := e5
      rw [e3] at e5
      simp only [Option.some.injEq, Value.int.injEq, true_and] at e5; subst e5
      exact e6 w
    · have hkk : k' = k := by
        cases op <;> simp only [isShift, not_true_eq_false] at hsh <;> simp only [intV] at e3 <;> split at e3 <;> first | (rename_i e; exact e.symm) | cases e3
      subst hkk
      by_cases har : isArith op = true
      · obtain ⟨c', e5, e6⟩ := int_arith_run (P := P) har (t := t) (k := k') (a := a) (b := b) (ox := ox) (oy := oy)
        rw [e3] at e5
        simp only [Option.some.injEq, Value.int.injEq, true_and] at e5; subst e5
        exact e6 w
      · have hq : (op = .quo ∨ op = .rem) ∧ b ≠ 0 := by
          cases op <;> simp only [isShift, not_true_eq_false] at hsh <;> simp only [isArith, not_true_eq_false] at har <;> simp only [intxV, reduceCtorEq] at e4 <;> split at e4
          · cases e4
          · rename_i hb; exact ⟨.inl rfl, hb⟩
          · cases e4
          · rename_i hb; exact ⟨.inr rfl, hb⟩
        obtain ⟨c', e5, e6⟩ := int_div_run (P := P) hq.1 (t := t) (k := k') (a := a) hq.2 (ox := ox) (oy := oy)
        rw [e3] at e5
        simp only [Option.some.injEq, Value.int.injEq, true_and] at e5; subst e5
        exact e6 w
def evIvQuo (S : St) (op : BinOp) (x y : SV) : Option (List (SV × St)) :=
  match op with
  | .quo => bif isInN S.fn S.exd then (match wholeOf S x, wholeOf S y with
    | some p, some q => bif p.ex && (decide (0 ≤ p.lo) && (decide (0 < q.lo) && (decide (p.hi < 9007199254740992) && decide (q.hi < 9007199254740992)))) then
        (match ivArith S .rem p.n q.n with
        | none => none
        | some (r, S1) =>
          let c := known S1 .bool (.int .eql .i64) [r, .val (.int .i64 0)]
          match need c.2 c.1 true with
          | none => none
          | some (S2, b2) => match ivArith S2 .quo p.n q.n with
            | none => none
            | some (n, S3) => match bdOf S3 n with
              | some (.i64, lo, hi) => bif okBd lo hi then some (mkWhole S3 n true lo hi :: bads b2) else none
              | _ => none) else none
    | _, _ => none) else none
  | _ => none
theorem evIvQuo_ok (hr : Rel B G w0 E S w) {op : BinOp} {t : TypeId} {x y : SV} {rs : List (SV × St)} {ox oy : Operand} {vx vy : Value} (h : evIvQuo S op x y = some rs) (hx : x.den E = some vx) (hy : y.den E = some vy) :
    DoesB B G w0 P E rs (do eqGuard op t ox oy vx vy; binOp op t vx vy) w := by
  unfold evIvQuo at h
  split at h
  case h_2 => cases h
  cases hexd : isInN S.fn S.exd with
  | false => rw [hexd] at h; cases h
  | true =>
  rw [hexd] at h
  simp only [cond_true] at h
  split at h
  case h_2 => cases h
  rename_i p q hp hq
  cases hc : p.ex && (decide (0 ≤ p.lo) && (decide (0 < q.lo) && (decide (p.hi < 9007199254740992) && decide (q.hi < 9007199254740992)))) with
  | false => rw [hc] at h; cases h
  | true =>
  rw [hc] at h
  simp only [Bool.and_eq_true, decide_eq_true_eq] at hc
  obtain ⟨c1, c2, c3, c4, c5⟩ := hc
  simp only [cond_true] at h
  obtain ⟨m1, f1, ka⟩ := wholeOf_ok hr hp hx
  obtain ⟨m2, f2, kb⟩ := wholeOf_ok hr hq hy
  have e1 := ka.v; have e2 := kb.v
  subst e1 e2
  have b1 := ka.lo; have b2 := ka.hi; have b3 := kb.lo; have b4 := kb.hi
  have x1 : f1 = FloatKind.f64.nearest m1 := ka.ex c1
  have x2 : f2 = FloatKind.f64.nearest m2 := kb.w.exact (by omega)
  subst x1 x2
  split at h
  · cases h
  rename_i r S1 hrm
  obtain ⟨_, _, _, _, c, F, e3, e4, _, e6, g1, g2, g3⟩ := ivArith_ok hr hrm ka.n kb.n
  cases e3; cases e4
  simp only [intxV] at e6
  rw [if_neg (by omega)] at e6
  simp only [Option.some.injEq] at e6; subst e6
  split at h
  · cases h
  rename_i S2 bs hnd
  obtain ⟨F2, k1, k2, k3⟩ := known_ok g2 (srt := .bool) (op := .int .eql .i64) (v := .bool (m1.tmod m2 == 0)) (vs := [.int .i64 (m1.tmod m2), .int .i64 0]) (bound_int _ _) (denL_mk g3 (denL_mk (x := .val (.int .i64 0)) (by simp only [SV.den]) (r := []) rfl)) ⟨_, rfl⟩ (rel_int (by simp only [intV, if_true, ibin]))
  have hle := Env.le_trans g1 k1
  split at h
  · cases h
  rename_i n S3 hn
  split at h
  case h_2 => cases h
  rename_i lo hi hb
  cases ho : okBd lo hi with
  | false => rw [ho] at h; cases h
  | true =>
  rw [ho] at h
  simp only [cond_true, Option.some.injEq] at h; subst h
  rcases need_ok k2 hnd k3 with ⟨e7, hr2⟩ | hbad
  case inr => exact doesB_bad hle hbad
  have hz : m1.tmod m2 = 0 := by simpa using e7
  unfold okBd at ho
  simp only [Bool.and_eq_true, decide_eq_true_eq] at ho
  obtain ⟨_, _, _, _, c, F3, e3, e4, _, e6, g4, g5, g6⟩ := ivArith_ok hr2 hn (SV.den_mono hle _ _ ka.n) (SV.den_mono hle _ _ kb.n)
  cases e3; cases e4
  simp only [intxV] at e6
  rw [if_neg (by omega)] at e6
  simp only [Option.some.injEq] at e6; subst e6
  obtain ⟨c', e8, d1, d2⟩ := bdOf_ok g5.env hb g6
  cases e8
  obtain ⟨F4, q1, q2, q3⟩ := mkWhole_ok g5 g6 (WholeF.near (show -(2 ^ 53) ≤ m1.tdiv m2 by omega) (show m1.tdiv m2 ≤ 2 ^ 53 by omega)) (ex := true) (fun _ => rfl) d1 d2
  have hq := quo_exact (show 0 ≤ m1 by omega) (show 0 < m2 by omega) (by omega) (by omega) hz
  obtain ⟨w', e9, hr'⟩ := far_exact (P := P) (op := .quo) rfl (t := t) (ox := ox) (oy := oy) (a := FloatKind.f64.nearest m1) (b := FloatKind.f64.nearest m2) (r := FloatKind.f64.nearest (m1.tdiv m2)) (congrArg some hq) q2
  exact ⟨_, List.mem_cons_self, .inr ⟨F4, _, w', Env.le_trans hle (Env.le_trans g4 q1), hr', q3, e9⟩⟩
def evIvUn (S : St) (op : UnOp) (x : SV) : Option (SV × St) :=
  match op with
  | .neg => match wholeOf S x with
    | some p => match ivArith S .sub (.val (.int .i64 0)) p.n with
      | none => none
      | some (m, S1) => match bdOf S1 m with
        | some (.i64, lo, hi) => some (mkWhole S1 m false lo hi)
        | _ => none
    | none => match bdOf S x with
      | some (k, _, _) => ivArith S .sub (.val (.int k 0)) x
      | none => none
  | _ => none
theorem evIvUn_ok (hr : Rel B G w0 E S w) {op : UnOp} {x sv : SV} {S' : St} {vx : Value} (h : evIvUn S op x = some (sv, S')) (hx : x.den E = some vx) : Does B G w0 P E sv S' (Op.unary op vx) w := by
  unfold evIvUn at h
  split at h
  case h_2 => cases h
  split at h
  · rename_i p hp
    obtain ⟨a, f, ka⟩ := wholeOf_ok hr hp hx
    have e1 := ka.v
    subst e1
    split at h
    · cases h
    rename_i m S1 hm
    obtain ⟨k1, a', k2, b', c, F, e3, e4, e5, e6, f1, f2, f3⟩ := ivArith_ok hr hm (vx := .int .i64 0) (by simp only [SV.den]) ka.n
    cases e3; cases e4
    simp only [intxV, Option.some.injEq] at e6
    split at h
    case h_2 => cases h
    rename_i lo hi hb
    simp only [Option.some.injEq] at h
    obtain ⟨c', e7, b1, b2⟩ := bdOf_ok f2.env hb f3
    cases e7
    have hw := neg_whole ka.w
    have hc : c = -a := by omega
    subst hc
    obtain ⟨F2, g1, g2, g3⟩ := mkWhole_ok f2 f3 hw (ex := false) (fun h => by cases h) b1 b2
    rw [h] at g2 g3
    exact ⟨F2, _, w, Env.le_trans f1 g1, g2, g3, by simp [Op.unary]⟩
  · split at h
    · rename_i k lo hi hb
      obtain ⟨n, rfl, _⟩ := bdOf_ok hr.env hb hx
      obtain ⟨k1, a', k2, b', c, F, e3, e4, e5, e6, f1, f2, f3⟩ := ivArith_ok hr h (vx := .int k 0) (by simp only [SV.den]) hx
      cases e3; cases e4
      simp only [intV, if_true, ibin, Option.some.injEq, Value.int.injEq, true_and] at e5
      exact ⟨F, _, w, f1, f2, f3, by simp [Op.unary, Op.intArith, ← e5]⟩
    · cases h
def evIvConv (P : Program) (S : St) (src dst : TypeId) (x : SV) : Option (SV × St) :=
  match P.underlying src, P.underlying dst with
  | some _, some (.int k) => match wholeOf S x with
    | some p => ivKind S k p.n
    | none => ivKind S k x
  | some _, some (.float .f64) => match ivKind S .i64 x with
    | none => none
    | some (n, S1) => match bdOf S1 n with
      | some (.i64, lo, hi) => bif okBd lo hi then some (mkWhole S1 n true lo hi) else none
      | _ => none
  | _, _ => none
theorem evIvConv_ok (hr : Rel B G w0 E S w) {src dst : TypeId} {x sv : SV} {S' : St} {vx : Value} (h : evIvConv P S src dst x = some (sv, S')) (hx : x.den E = some vx) : Does B G w0 P E sv S' (convert src dst vx) w := by
  unfold evIvConv at h
  split at h
  · rename_i ds k hs hd
    split at h
    · rename_i p hp
      obtain ⟨a, f, ka⟩ := wholeOf_ok hr hp hx
      have e1 := ka.v
      subst e1
      obtain ⟨k', n, F, e1, n1, n2, f1, f2, f3⟩ := ivKind_ok hr h ka.n
      cases e1
      obtain ⟨v, w', g1, g2, g3, _⟩ := f2i_run (P := P) (b := f) (k := k) w
      have := f2i_whole ka.w n1 n2 g3
      subst this
      have hr' : Rel B G w0 F S' w' := by
        rcases g2 with rfl | rfl
        · exact f2
        · exact rel_drew f2
      exact ⟨F, _, w', f1, hr', f3, by simp [convert, run_underlying hs, run_underlying hd, g1]⟩
    · obtain ⟨k', n, F, rfl, n1, n2, f1, f2, f3⟩ := ivKind_ok hr h hx
      exact ⟨F, _, w, f1, f2, f3, by simp [convert, run_underlying hs, run_underlying hd, Conv.intToInt, wrap_in n1 n2]⟩
  · rename_i ds hs hd
    split at h
    · cases h
    rename_i n S1 hk
    obtain ⟨k', m, F, rfl, n1, n2, f1, f2, f3⟩ := ivKind_ok hr hk hx
    split at h
    case h_2 => cases h
    rename_i lo hi hb
    cases ho : okBd lo hi with
    | false => rw [ho] at h; cases h
    | true =>
    rw [ho] at h
    simp only [cond_true, Option.some.injEq] at h
    unfold okBd at ho
    simp only [Bool.and_eq_true, decide_eq_true_eq] at ho
    obtain ⟨c', e7, b1, b2⟩ := bdOf_ok f2.env hb f3
    cases e7
    obtain ⟨F2, g1, g2, g3⟩ := mkWhole_ok f2 f3 (WholeF.near (show -(2 ^ 53) ≤ m by omega) (show m ≤ 2 ^ 53 by omega)) (ex := true) (fun _ => rfl) b1 b2
    rw [h] at g2 g3
    exact ⟨F2, _, w, Env.le_trans f1 g1, g2, g3, by simp [convert, run_underlying hs, run_underlying hd, Conv.intToFloat]⟩
  · cases h
def absArg (S : St) (c : SV) : Option SV :=
  match c with
  | .sym i => match defOf i S.facts with
    | some ⟨.int .andNot .u64, [.sym b, .val (.int .u64 (.ofNat 9223372036854775808))], _⟩ => match defOf b S.facts with
      | some ⟨.ext .fbits, [f], _⟩ => some f
      | _ => none
    | _ => none
  | _ => none
theorem absArg_ok (hr : Rel B G w0 E S w) {c f : SV} {v : Value} (h : absArg S c = some f) (hc : c.den E = some v) : ∃ u, f.den E = some u ∧ ∀ x : Nat, u = .float .f64 x → v = .int .u64 ((x % 2 ^ 63 : Nat) : Int) := by
  unfold absArg at h
  split at h
  case h_2 => cases h
  rename_i i
  split at h
  case h_2 => cases h
  rename_i b r1 hi
  split at h
  case h_2 => cases h
  rename_i f' r2 hb
  simp only [Option.some.injEq] at h; subst h
  obtain ⟨m1, e1⟩ := defOf_mem hi
  obtain ⟨m2, e2⟩ := defOf_mem hb
  simp only at e1 e2; subst e1 e2
  obtain ⟨vs, u, h1, h2, h3⟩ := hr.facts _ m1
  obtain ⟨ws, z, g1, g2, g3⟩ := hr.facts _ m2
  obtain ⟨v1, l1, a1, a2, rfl⟩ := denL_cons h1
  obtain ⟨v2, l2, a3, a4, rfl⟩ := denL_cons a2
  simp only [SV.denL, Option.some.injEq] at a4; subst a4
  simp only [SV.den, Option.some.injEq] at a3; subst a3
  obtain ⟨y, l3, b1, b2, rfl⟩ := denL_cons g1
  simp only [SV.denL, Option.some.injEq] at b2; subst b2
  simp only [SV.den] at h2 g2 a1 hc
  obtain rfl : z = v1 := by rw [a1] at g2; exact (Option.some.inj g2).symm
  refine ⟨_, b1, fun x e => ?_⟩
  subst e
  have g3 : z = .int .u64 x := g3
  subst g3
  have h3 : ibin .andNot .u64 (x : Int) 9223372036854775808 = some u := h3
  cases u with
  | int k r =>
    have hk : k = .u64 := by
      simp only [ibin, Option.some.injEq, Value.int.injEq] at h3
      exact h3.1.symm
    subst hk
    have hvu : v = .int .u64 r := by rw [hc] at h2; exact Option.some.inj h2
    rw [hvu, andNot_top h3]
  | _ => simp [ibin] at h3
def absOne (S : St) (n : SV) (neg : Bool) : Option (SV × St) :=
  match neg with
  | false => match bdOf S n with
    | some (.i64, lo, hi) => bif okBd lo hi && decide (0 ≤ lo) then some (mkWhole S n true lo hi) else none
    | _ => none
  | true => match bdOf S n with
    | some (.i64, l0, h0) => bif okBd l0 h0 && decide (h0 ≤ 0) then (match ivArith S .sub (.val (.int .i64 0)) n with
      | none => none
      | some (m, S1) => match bdOf S1 m with
        | some (.i64, lo, hi) => bif okBd lo hi then some (mkWhole S1 m true lo hi) else none
        | _ => none) else none
    | _ => none
theorem absOne_ok (hr : Rel B G w0 E S w) {n sv : SV} {S' : St} {neg : Bool} {a : Int} {f : Nat} (h : absOne S n neg = some (sv, S')) (hn : n.den E = some (.int .i64 a)) (hw : WholeF a f) :
    ∃ F, E.le F ∧ Rel B G w0 F S' w ∧ sv.den F = some (.float .f64 (f % 2 ^ 63)) := by
  have habs := abs_whole hw
  unfold absOne at h
  split at h
  · split at h
    case h_2 => cases h
    rename_i lo hi hb
    cases ho : okBd lo hi && decide (0 ≤ lo) with
    | false => rw [ho] at h; cases h
    | true =>
    rw [ho] at h
    unfold okBd at ho
    simp only [Bool.and_eq_true, decide_eq_true_eq] at ho
    simp only [cond_true, Option.some.injEq] at h
    obtain ⟨c', e7, b1, b2⟩ := bdOf_ok hr.env hb hn
    cases e7
    have e : f % 2 ^ 63 = FloatKind.f64.nearest a := by rw [habs]; congr 1; omega
    rw [e]
    obtain ⟨F2, g1, g2, g3⟩ := mkWhole_ok hr hn (WholeF.near hw.1 hw.2.1) (ex := true) (fun _ => rfl) b1 b2
    rw [h] at g2 g3
    exact ⟨F2, g1, g2, g3⟩
  · split at h
    case h_2 => cases h
    rename_i l0 h0 hb0
    cases ho : okBd l0 h0 && decide (h0 ≤ 0) with
    | false => rw [ho] at h; cases h
    | true =>
    rw [ho] at h
    unfold okBd at ho
    simp only [Bool.and_eq_true, decide_eq_true_eq] at ho
    simp only [cond_true] at h
    obtain ⟨c', e7, b1, b2⟩ := bdOf_ok hr.env hb0 hn
    cases e7
    split at h
    · cases h
    rename_i m S1 hm
    obtain ⟨k1, a', k2, b', c, F, e3, e4, e5, e6, f1, f2, f3⟩ := ivArith_ok hr hm (vx := .int .i64 0) (by simp only [SV.den]) hn
    cases e3; cases e4
    simp only [intxV, Option.some.injEq] at e6
    split at h
    case h_2 => cases h
    rename_i lo hi hb
    cases ho2 : okBd lo hi with
    | false => rw [ho2] at h; cases h
    | true =>
    rw [ho2] at h
    unfold okBd at ho2
    simp only [Bool.and_eq_true, decide_eq_true_eq] at ho2
    simp only [cond_true, Option.some.injEq] at h
    obtain ⟨c', e7, b3, b4⟩ := bdOf_ok f2.env hb f3
    cases e7
    have e : f % 2 ^ 63 = FloatKind.f64.nearest c := by rw [habs]; congr 1; omega
    rw [e]
    obtain ⟨F2, g1, g2, g3⟩ := mkWhole_ok f2 f3 (WholeF.near (show -(2 ^ 53) ≤ c by omega) (show c ≤ 2 ^ 53 by omega)) (ex := true) (fun _ => rfl) b3 b4
    rw [h] at g2 g3
    exact ⟨F2, Env.le_trans f1 g1, g2, g3⟩
def absAll (n : SV) : List (Bool × St) → Option (List (SV × St))
  | [] => some []
  | p :: r => match absOne p.2 n p.1, absAll n r with
    | some x, some l => some (x :: l)
    | _, _ => none
theorem absAll_mem {n : SV} : ∀ {l : List (Bool × St)} {rs : List (SV × St)}, absAll n l = some rs → ∀ p ∈ l, ∃ x ∈ rs, absOne p.2 n p.1 = some x
  | [], _, _, p, hp => by cases hp
  | q :: r, rs, h, p, hp => by
    simp only [absAll] at h
    split at h
    · rename_i x l hx hl
      simp only [Option.some.injEq] at h; subst h
      cases hp with
      | head => exact ⟨x, List.mem_cons_self, hx⟩
      | tail _ hp =>
        obtain ⟨y, h1, h2⟩ := absAll_mem hl p hp
        exact ⟨y, List.mem_cons_of_mem _ h1, h2⟩
    · cases h
def quoInt (S : St) (a : SV) : Option (SV × St) :=
  match a with
  | .sym g => match defOf g S.facts with
    | some ⟨.far .quo, [x, y], _⟩ => match wholeOf S x, wholeOf S y with
      | some p, some q => bif p.ex && (decide (0 ≤ p.lo) && (decide (0 < q.lo) && decide (p.hi + q.hi ≤ 4503599627370496))) then
          (match ivArith S .quo p.n q.n with
          | some (n, S1) => match bdOf S1 n with
            | some (.i64, lo, hi) => bif okBd lo hi then some (mkWhole S1 n true lo hi) else none
            | _ => none
          | none => none) else none
      | _, _ => none
    | _ => none
  | _ => none
def quoNeg (S : St) (a : SV) : Option (SV × St) :=
  match a with
  | .sym g => match defOf g S.facts with
    | some ⟨.far .quo, [x, y], _⟩ => match wholeOf S x, wholeOf S y with
      | some p, some q => bif decide (p.hi < 0) && (decide (0 < q.lo) && decide (q.hi - p.lo ≤ 4503599627370496)) then
          (match ivArith S .sub q.n p.n with
          | some (t1, S1) => match ivArith S1 .sub t1 (.val (.int .i64 1)) with
            | some (t2, S2) => match ivArith S2 .quo t2 q.n with
              | some (t3, S3) => match ivArith S3 .sub (.val (.int .i64 0)) t3 with
                | some (n, S4) => match bdOf S4 n with
                  | some (.i64, lo, hi) => bif okBd lo hi then some (mkWhole S4 n true lo hi) else none
                  | _ => none
                | none => none
              | none => none
            | none => none
          | none => none) else none
      | _, _ => none
    | _ => none
  | _ => none
def dividend (S : St) (a : SV) : Option SV :=
  match a with
  | .sym g => match defOf g S.facts with
    | some ⟨.far .quo, [x, _], _⟩ => match wholeOf S x with
      | some p => some p.n
      | none => none
    | _ => none
  | _ => none
def floorAll (a : SV) : List (Bool × St) → Option (List (SV × St))
  | [] => some []
  | p :: r => match (match p.1 with | true => quoNeg p.2 a | false => quoInt p.2 a), floorAll a r with
    | some x, some l => some (x :: l)
    | _, _ => none
theorem floorAll_mem {a : SV} : ∀ {l : List (Bool × St)} {rs : List (SV × St)}, floorAll a l = some rs → ∀ p ∈ l, ∃ x ∈ rs, (match p.1 with | true => quoNeg p.2 a | false => quoInt p.2 a) = some x
  | [], _, _, p, hp => by cases hp
  | q :: r, rs, h, p, hp => by
    simp only [floorAll] at h
    split at h
    · rename_i x l hx hl
      simp only [Option.some.injEq] at h; subst h
      cases hp with
      | head => exact ⟨x, List.mem_cons_self, hx⟩
      | tail _ hp =>
        obtain ⟨y, h1, h2⟩ := floorAll_mem hl p hp
        exact ⟨y, List.mem_cons_of_mem _ h1, h2⟩
    · cases h
def floorQuo (S : St) (a : SV) : Option (List (SV × St)) :=
  match quoInt S a with
  | some z => some [z]
  | none => match quoNeg S a with
    | some z => some [z]
    | none => match dividend S a with
      | some n =>
        let d := known S .bool (.int .lss .i64) [n, .val (.int .i64 0)]
        match dec d.2 d.1 with
        | some l => floorAll a l
        | none => none
      | none => none
def isDown : ExtOp → Bool
  | .floor | .trunc => true
  | _ => false
def evIvExt (X : List (Nat × ExtOp)) (S : St) (f : Nat) (args : List SV) : Option (List (SV × St)) :=
  match find f X, args with
  | some .ffrom, [c] => match absArg S c with
    | some y => match wholeOf S y with
      | some p => bif decide (0 ≤ p.lo) then mapO1 (absOne S p.n false) else bif decide (p.hi ≤ 0) then mapO1 (absOne S p.n true) else
          let d := known S .bool (.int .lss .i64) [p.n, .val (.int .i64 0)]
          match dec d.2 d.1 with
          | some l => absAll p.n l
          | none => none
      | none => none
    | none => none
  | some .fbits, [a] => match wholeOf S a with
    | some p => bif p.ex || (decide (0 < p.lo) || decide (p.hi < 0)) then
        (bif decide (p.lo = p.hi) then some [(.val (.int .u64 (FloatKind.f64.nearest p.lo)), S)] else
        let g := mkWhole S p.n true p.lo p.hi
        some [known g.2 (.int .u64) (.ext .fbits) [g.1]]) else none
    | none => none
  | some .sqrt, _ => none
  | some x, [a] => match wholeOf S a with
    | some p => some [mkWhole S p.n p.ex p.lo p.hi]
    | none => match x with
      | .floor => floorQuo S a
      | .trunc => mapO1 (quoInt S a)
      | _ => none
  | _, _ => none
where
  mapO1 : Option (SV × St) → Option (List (SV × St))
    | some x => some [x]
    | none => none
theorem quoInt_ok (hr : Rel B G w0 E S w) {a sv : SV} {S' : St} {v : Value} (h : quoInt S a = some (sv, S')) (ha : a.den E = some v) :
    ∃ F r z, E.le F ∧ Rel B G w0 F S' w ∧ v = .float .f64 r ∧ sv.den F = some (.float .f64 z) ∧ (∀ s t, FloatKind.f64.decode r ≠ .nan s t) ∧ ∀ way, way = Ieee.Toward.down ∨ way = Ieee.Toward.zero → FloatKind.f64.encode ((FloatKind.f64.decode r).integral way) = z := by
  unfold quoInt at h
  split at h
  case h_2 => cases h
  rename_i g
  split at h
  case h_2 => cases h
  rename_i x y rs hd
  split at h
  case h_2 => cases h
  rename_i p q hp hq
  cases hc : p.ex && (decide (0 ≤ p.lo) && (decide (0 < q.lo) && decide (p.hi + q.hi ≤ 4503599627370496))) with
  | false => rw [hc] at h; cases h
  | true =>
  rw [hc] at h
  simp only [Bool.and_eq_true, decide_eq_true_eq] at hc
  obtain ⟨c1, c2, c3, c4⟩ := hc
  simp only [cond_true] at h
  split at h
  case h_2 => cases h
  rename_i n S1 hn
  split at h
  case h_2 => cases h
  rename_i lo hi hb
  cases ho : okBd lo hi with
  | false => rw [ho] at h; cases h
  | true =>
  rw [ho] at h
  simp only [cond_true, Option.some.injEq] at h
  unfold okBd at ho
  simp only [Bool.and_eq_true, decide_eq_true_eq] at ho
  obtain ⟨hm, hres⟩ := defOf_mem hd
  simp only at hres; subst hres
  obtain ⟨vs, u, k1, k2, k3⟩ := hr.facts _ hm
  obtain ⟨v1, l1, a1, a2, rfl⟩ := denL_cons k1
  obtain ⟨v2, l2, a3, a4, rfl⟩ := denL_cons a2
  simp only [SV.denL, Option.some.injEq] at a4; subst a4
  simp only [SV.den] at k2 ha
  rw [ha] at k2; cases k2
  obtain ⟨m1, f1, ka⟩ := wholeOf_ok hr hp a1
  obtain ⟨m2, f2, kb⟩ := wholeOf_ok hr hq a3
  have e1 := ka.v; have e2 := kb.v
  subst e1 e2
  have b1 := ka.lo; have b2 := ka.hi; have b3 := kb.lo; have b4 := kb.hi
  have x1 : f1 = FloatKind.f64.nearest m1 := ka.ex c1
  have x2 : f2 = FloatKind.f64.nearest m2 := kb.w.exact (by omega)
  subst x1 x2
  obtain ⟨r0, g1, _⟩ := div_floor (a := m1.toNat) (b := m2.toNat) (by omega) (by omega)
  have t1 : ((m1.toNat : Nat) : Int) = m1 := by omega
  have t2 : ((m2.toNat : Nat) : Int) = m2 := by omega
  rw [t1, t2] at g1
  obtain ⟨r, k4, k5⟩ := k3
  have k4 : some (Ieee.double.div (FloatKind.f64.nearest m1) (FloatKind.f64.nearest m2)) = some r := k4
  rw [g1] at k4
  simp only [Option.some.injEq] at k4; subst k4
  rcases k5 with ⟨b, k6, rfl⟩ | ⟨k6, _⟩
  case inr => cases k6
  simp only [Option.some.injEq] at k6; subst k6
  obtain ⟨k', a', k'', b', c, F, e3, e4, e5, e6, f1, f2, f3⟩ := ivArith_ok hr hn ka.n kb.n
  cases e3; cases e4
  have hc : c = m1.tdiv m2 := by
    simp only [intxV] at e6
    rw [if_neg (by omega)] at e6
    exact (Option.some.inj e6).symm
  subst hc
  obtain ⟨c', e7, d1, d2⟩ := bdOf_ok f2.env hb f3
  cases e7
  obtain ⟨F2, q1, q2, q3⟩ := mkWhole_ok f2 f3 (WholeF.near (show -(2 ^ 53) ≤ m1.tdiv m2 by omega) (show m1.tdiv m2 ≤ 2 ^ 53 by omega)) (ex := true) (fun _ => rfl) d1 d2
  rw [h] at q2 q3
  have key := fun way hw => quo_whole (way := way) hw (show 0 ≤ m1 by omega) (show 0 < m2 by omega) (show m1 + m2 ≤ 2 ^ 52 by omega) g1
  exact ⟨F2, r0, _, Env.le_trans f1 q1, q2, rfl, q3, (key .down (.inl rfl)).2, fun way hw => (key way hw).1⟩
def Below_ (B G : Nat) (w0 : Start) (E : Env) (w : World) (z : SV × St) (v : Value) : Prop :=
  ∃ F r y, E.le F ∧ Rel B G w0 F z.2 w ∧ v = .float .f64 r ∧ z.1.den F = some (.float .f64 y) ∧ (∀ s t, FloatKind.f64.decode r ≠ .nan s t) ∧ FloatKind.f64.encode ((FloatKind.f64.decode r).integral .down) = y
theorem quoNeg_ok (hr : Rel B G w0 E S w) {a : SV} {z : SV × St} {v : Value} (h : quoNeg S a = some z) (ha : a.den E = some v) : Below_ B G w0 E w z v := by
  unfold quoNeg at h
  split at h
  case h_2 => cases h
  rename_i g
  split at h
  case h_2 => cases h
  rename_i x y rs hd
  split at h
  case h_2 => cases h
  rename_i p q hp hq
  cases hc : decide (p.hi < 0) && (decide (0 < q.lo) && decide (q.hi - p.lo ≤ 4503599627370496)) with
  | false => rw [hc] at h; cases h
  | true =>
  rw [hc] at h
  simp only [Bool.and_eq_true, decide_eq_true_eq] at hc
  obtain ⟨c1, c2, c3⟩ := hc
  simp only [cond_true] at h
  split at h
  case h_2 => cases h
  rename_i t1 S1 ht1
  split at h
  case h_2 => cases h
  rename_i t2 S2 ht2
  split at h
  case h_2 => cases h
  rename_i t3 S3 ht3
  split at h
  case h_2 => cases h
  rename_i n S4 hn
  split at h
  case h_2 => cases h
  rename_i lo hi hb
  cases ho : okBd lo hi with
  | false => rw [ho] at h; cases h
  | true =>
  rw [ho] at h
  simp only [cond_true, Option.some.injEq] at h
  unfold okBd at ho
  simp only [Bool.and_eq_true, decide_eq_true_eq] at ho
  obtain ⟨hm, hres⟩ := defOf_mem hd
  simp only at hres; subst hres
  obtain ⟨vs, u, k1, k2, k3⟩ := hr.facts _ hm
  obtain ⟨v1, l1, a1, a2, rfl⟩ := denL_cons k1
  obtain ⟨v2, l2, a3, a4, rfl⟩ := denL_cons a2
  simp only [SV.denL, Option.some.injEq] at a4; subst a4
  simp only [SV.den] at k2 ha
  rw [ha] at k2; cases k2
  obtain ⟨m1, f1, ka⟩ := wholeOf_ok hr hp a1
  obtain ⟨m2, f2, kb⟩ := wholeOf_ok hr hq a3
  have e1 := ka.v; have e2 := kb.v
  subst e1 e2
  have b1 := ka.lo; have b2 := ka.hi; have b3 := kb.lo; have b4 := kb.hi
  have x1 : f1 = FloatKind.f64.nearest m1 := ka.w.exact (by omega)
  have x2 : f2 = FloatKind.f64.nearest m2 := kb.w.exact (by omega)
  subst x1 x2
  obtain ⟨r0, g1, g2, g3⟩ := quo_below (a := m1) (b := m2) (by omega) (by omega) (by omega)
  obtain ⟨r, k4, k5⟩ := k3
  have k4 : some (Ieee.double.div (FloatKind.f64.nearest m1) (FloatKind.f64.nearest m2)) = some r := k4
  rw [g1] at k4
  simp only [Option.some.injEq] at k4; subst k4
  rcases k5 with ⟨b, k6, rfl⟩ | ⟨k6, _⟩
  case inr => cases k6
  simp only [Option.some.injEq] at k6; subst k6
  obtain ⟨_, _, _, _, s1, F1, p1, p2, p3, p4, p5, p6, p7⟩ := ivArith_ok hr ht1 kb.n ka.n
  cases p1; cases p2
  obtain ⟨_, _, _, _, s2, F2, q1, q2, q3, q4, q5, q6, q7⟩ := ivArith_ok p6 ht2 p7 (vy := .int .i64 1) (by simp only [SV.den])
  cases q1; cases q2
  obtain ⟨_, _, _, _, s3, F3, r1, r2, r3, r4, r5, r6, r7⟩ := ivArith_ok q6 ht3 q7 (SV.den_mono (Env.le_trans p5 q5) _ _ kb.n)
  cases r1; cases r2
  obtain ⟨_, _, _, _, s4, F4, t1', t2', t3', t4, t5, t6, t7⟩ := ivArith_ok r6 hn (vx := .int .i64 0) (by simp only [SV.den]) r7
  cases t1'; cases t2'
  simp only [intxV, Option.some.injEq] at p4 q4 t4
  simp only [intxV] at r4
  rw [if_neg (by omega)] at r4
  simp only [Option.some.injEq] at r4
  subst p4 q4 r4 t4
  obtain ⟨c', e7, d1, d2⟩ := bdOf_ok t6.env hb t7
  cases e7
  obtain ⟨F5, u1, u2, u3⟩ := mkWhole_ok t6 t7 (WholeF.near (show -(2 ^ 53) ≤ 0 - (m2 - m1 - 1).tdiv m2 by omega) (show 0 - (m2 - m1 - 1).tdiv m2 ≤ 2 ^ 53 by omega)) (ex := true) (fun _ => rfl) d1 d2
  rw [h] at u2 u3
  exact ⟨F5, r0, _, Env.le_trans p5 (Env.le_trans q5 (Env.le_trans r5 (Env.le_trans t5 u1))), u2, rfl, u3, g3, g2⟩
theorem quoInt_below (hr : Rel B G w0 E S w) {a : SV} {z : SV × St} {v : Value} (h : quoInt S a = some z) (ha : a.den E = some v) : Below_ B G w0 E w z v := by
  obtain ⟨F, r, y, h1, h2, h3, h4, h5, h6⟩ := quoInt_ok hr (sv := z.1) (S' := z.2) h ha
  exact ⟨F, r, y, h1, h2, h3, h4, h5, h6 .down (.inl rfl)⟩
theorem floorQuo_ok (hr : Rel B G w0 E S w) {a : SV} {rs : List (SV × St)} {v : Value} (h : floorQuo S a = some rs) (ha : a.den E = some v) : ∃ z ∈ rs, Below_ B G w0 E w z v := by
  unfold floorQuo at h
  split at h
  · rename_i z hz
    simp only [Option.some.injEq] at h; subst h
    exact ⟨z, List.mem_cons_self, quoInt_below hr hz ha⟩
  · split at h
    · rename_i z hz
      simp only [Option.some.injEq] at h; subst h
      exact ⟨z, List.mem_cons_self, quoNeg_ok hr hz ha⟩
    · split at h
      case h_2 => cases h
      rename_i n hn
      simp only at h
      split at h
      case h_2 => cases h
      rename_i l hl
      have hden : ∃ m : Int, n.den E = some (.int .i64 m) := by
        unfold dividend at hn
        split at hn
        case h_2 => cases hn
        split at hn
        case h_2 => cases hn
        rename_i x y rs' hd
        split at hn
        case h_2 => cases hn
        rename_i p hp
        simp only [Option.some.injEq] at hn; subst hn
        obtain ⟨hm, _⟩ := defOf_mem hd
        obtain ⟨vs, u, k1, k2, k3⟩ := hr.facts _ hm
        obtain ⟨v1, l1, a1, a2, rfl⟩ := denL_cons k1
        obtain ⟨m1, f1, ka⟩ := wholeOf_ok hr hp a1
        exact ⟨m1, ka.n⟩
      obtain ⟨m, hm⟩ := hden
      obtain ⟨F, f1, f2, f3⟩ := known_ok hr (srt := .bool) (op := .int .lss .i64) (v := .bool (m < 0)) (vs := [.int .i64 m, .int .i64 0]) (bound_int _ _) (denL_mk hm (denL_mk (x := .val (.int .i64 0)) (by simp only [SV.den]) (r := []) rfl)) ⟨_, rfl⟩ (rel_int (by simp only [intV, if_true, ibin]))
      obtain ⟨q, hq, _, hrel⟩ := dec_ok hl f2 f3
      obtain ⟨z, hz1, hz2⟩ := floorAll_mem h q hq
      have hz : Below_ B G w0 F w z v := by
        cases hb : q.1 with
        | true => rw [hb] at hz2; exact quoNeg_ok hrel hz2 (SV.den_mono f1 _ _ ha)
        | false => rw [hb] at hz2; exact quoInt_below hrel hz2 (SV.den_mono f1 _ _ ha)
      obtain ⟨F', r, y, h1, h2⟩ := hz
      exact ⟨z, hz1, F', r, y, Env.le_trans f1 h1, h2⟩
def CallsB (B G : Nat) (w0 : Start) (P : Program) (E : Env) (rs : List (SV × St)) (f : Nat) (vs : List Value) (w : World) : Prop :=
  ∃ p ∈ rs, ∃ (F : Env) (v : Value) (w' : World), E.le F ∧ Rel B G w0 F p.2 w' ∧ p.1.den F = some v ∧ (callFunc f vs.toArray).run P w = .ok (.value v) w'
theorem evIvExt_ok (hr : Rel B G w0 E S w) {X : List (Nat × ExtOp)} (hX : ∀ p ∈ X, ExtAt P p.1 p.2) {f : Nat} {args : List SV} {rs : List (SV × St)} {vs : List Value} (h : evIvExt X S f args = some rs) (hv : SV.denL E args = some vs) : CallsB B G w0 P E rs f vs w := by
  unfold evIvExt at h
  split at h
  · rename_i c hx
    obtain ⟨v, l, ha, hl, rfl⟩ := denL_cons hv
    simp only [SV.denL, Option.some.injEq] at hl; subst hl
    split at h
    case h_2 => cases h
    rename_i y hy
    split at h
    case h_2 => cases h
    rename_i p hp
    obtain ⟨u, k1, k2⟩ := absArg_ok hr hy ha
    obtain ⟨a, f', ka⟩ := wholeOf_ok hr hp k1
    have e1 := k2 f' ka.v
    subst e1
    have run : ∀ w, (callFunc f [Value.int .u64 ((f' % 2 ^ 63 : Nat) : Int)].toArray).run P w = .ok (.value (.float .f64 (f' % 2 ^ 63))) w := fun w => by
      rw [hX _ (find_mem hx)]; rfl
    have one : ∀ (neg : Bool) {S1 : St} {E1 : Env} {z : SV × St}, E.le E1 → Rel B G w0 E1 S1 w → absOne S1 p.n neg = some z → ∃ (F : Env), E.le F ∧ Rel B G w0 F z.2 w ∧ z.1.den F = some (.float .f64 (f' % 2 ^ 63)) := fun neg {S1 E1 z} hle h1 hz => by
      obtain ⟨F, g1, g2, g3⟩ := absOne_ok h1 (sv := z.1) (S' := z.2) hz (SV.den_mono hle _ _ ka.n) ka.w
      exact ⟨F, Env.le_trans hle g1, g2, g3⟩
    cases c1 : decide (0 ≤ p.lo) with
    | true =>
      rw [c1] at h
      simp only [cond_true] at h
      cases hz : absOne S p.n false with
      | none => rw [hz] at h; cases h
      | some z =>
        rw [hz] at h
        simp only [evIvExt.mapO1, Option.some.injEq] at h; subst h
        obtain ⟨F, g1, g2, g3⟩ := one false E.le_refl hr hz
        exact ⟨z, List.mem_cons_self, F, _, w, g1, g2, g3, run w⟩
    | false =>
      rw [c1] at h
      simp only [cond_false] at h
      cases c2 : decide (p.hi ≤ 0) with
      | true =>
        rw [c2] at h
        simp only [cond_true] at h
        cases hz : absOne S p.n true with
        | none => rw [hz] at h; cases h
        | some z =>
          rw [hz] at h
          simp only [evIvExt.mapO1, Option.some.injEq] at h; subst h
          obtain ⟨F, g1, g2, g3⟩ := one true E.le_refl hr hz
          exact ⟨z, List.mem_cons_self, F, _, w, g1, g2, g3, run w⟩
      | false =>
        rw [c2] at h
        simp only [cond_false] at h
        split at h
        case h_2 => cases h
        rename_i l hl
        obtain ⟨F, f1, f2, f3⟩ := known_ok hr (srt := .bool) (op := .int .lss .i64) (v := .bool (a < 0)) (vs := [.int .i64 a, .int .i64 0]) (bound_int _ _) (denL_mk ka.n (denL_mk (x := .val (.int .i64 0)) (by simp only [SV.den]) (r := []) rfl)) ⟨_, rfl⟩ (rel_int (by simp only [intV, if_true, ibin]))
        obtain ⟨q, hq, _, hrel⟩ := dec_ok hl f2 f3
        obtain ⟨z, hz1, hz2⟩ := absAll_mem h q hq
        obtain ⟨F2, g1, g2, g3⟩ := one q.1 f1 hrel hz2
        exact ⟨z, hz1, F2, _, w, g1, g2, g3, run w⟩
  · rename_i a hx
    obtain ⟨v, l, ha, hl, rfl⟩ := denL_cons hv
    simp only [SV.denL, Option.some.injEq] at hl; subst hl
    split at h
    case h_2 => cases h
    rename_i p hp
    obtain ⟨m, f', ka⟩ := wholeOf_ok hr hp ha
    have e1 := ka.v
    subst e1
    cases hc : p.ex || (decide (0 < p.lo) || decide (p.hi < 0)) with
    | false => rw [hc] at h; cases h
    | true =>
    rw [hc] at h
    simp only [cond_true] at h
    have hf : f' = FloatKind.f64.nearest m := by
      simp only [Bool.or_eq_true, decide_eq_true_eq] at hc
      have := ka.lo; have := ka.hi
      rcases hc with h | h | h
      · exact ka.ex h
      · exact ka.w.exact (by omega)
      · exact ka.w.exact (by omega)
    cases hs : decide (p.lo = p.hi) with
    | true =>
      rw [hs] at h
      simp only [cond_true, Option.some.injEq] at h; subst h
      simp only [decide_eq_true_eq] at hs
      have hm : p.lo = m := by have := ka.lo; have := ka.hi; omega
      exact ⟨_, List.mem_cons_self, E, .int .u64 f', w, E.le_refl, hr, by simp only [SV.den, hm, hf], by rw [hX _ (find_mem hx)]; rfl⟩
    | false =>
    rw [hs] at h
    simp only [cond_false, Option.some.injEq] at h; subst h
    obtain ⟨F, g1, g2, g3⟩ := mkWhole_ok hr ka.n ka.w (ex := true) (fun _ => hf) ka.lo ka.hi
    obtain ⟨F2, k1, k2, k3⟩ := known_ok g2 (srt := .int .u64) (op := .ext .fbits) (v := .int .u64 f') (vs := [.float .f64 f']) (bound_bits rfl) (denL_mk g3 (r := []) rfl) ⟨_, rfl⟩ rfl
    exact ⟨_, List.mem_cons_self, F2, _, w, Env.le_trans g1 k1, k2, k3, by rw [hX _ (find_mem hx)]; rfl⟩
  · cases h
  · rename_i x a hn1 hn2 hn3 hx
    obtain ⟨v, l, ha, hl, rfl⟩ := denL_cons hv
    simp only [SV.denL, Option.some.injEq] at hl; subst hl
    split at h
    case h_2 =>
      cases x with
      | fbits => cases h
      | ffrom => cases h
      | ceil => cases h
      | sqrt => cases h
      | floor =>
        obtain ⟨z, hz, F, r, z', g1, g2, rfl, g3, g4, g5⟩ := floorQuo_ok hr h ha
        refine ⟨z, hz, F, _, w, g1, g2, g3, ?_⟩
        rw [hX _ (find_mem hx)]
        show ((ExtOp.floor.sem #[.float .f64 r]).run P w).andThen _ = _
        obtain ⟨name, hs⟩ : ∃ name, ExtOp.floor.sem = Extern.MathFloor.toIntegral name .down := ⟨_, rfl⟩
        have hu : Extern.MathFloor.toIntegral name .down #[.float .f64 r] = (match FloatKind.f64.decode r with
          | .nan s t => if FloatKind.f64.format.quiet t = t then pure (.float .f64 r) else do
            let kept ← choose (.extern "math.Floor,Ceil,Trunc,RoundToEven.signallingNaN kept" 2)
            pure (.float .f64 (if kept == 1 then r else FloatKind.f64.encode (.nan s (FloatKind.f64.format.quiet t))))
          | d => pure (.float .f64 (FloatKind.f64.encode (d.integral .down)))) := rfl
        rw [hs, hu]
        split
        · rename_i s t hd; exact (g4 s t hd).elim
        · simp [g5]
      | trunc =>
      have hd : isDown .trunc = true := rfl
      cases hz : quoInt S a with
      | none => rw [hz] at h; cases h
      | some z =>
      rw [hz] at h
      simp only [evIvExt.mapO1, Option.some.injEq] at h; subst h
      obtain ⟨F, r, z', g1, g2, rfl, g3, g4, g5⟩ := quoInt_ok hr (sv := z.1) (S' := z.2) hz ha
      have key : ∀ (name : String) (way : Ieee.Toward), ExtOp.trunc.sem = Extern.MathFloor.toIntegral name way → (way = .down ∨ way = .zero) → CallsB B G w0 P E [z] f [.float .f64 r] w := fun name way hs hw => by
        refine ⟨z, List.mem_cons_self, F, _, w, g1, g2, g3, ?_⟩
        rw [hX _ (find_mem hx)]
        show ((ExtOp.trunc.sem #[.float .f64 r]).run P w).andThen _ = _
        have hu : Extern.MathFloor.toIntegral name way #[.float .f64 r] = (match FloatKind.f64.decode r with
          | .nan s t => if FloatKind.f64.format.quiet t = t then pure (.float .f64 r) else do
            let kept ← choose (.extern "math.Floor,Ceil,Trunc,RoundToEven.signallingNaN kept" 2)
            pure (.float .f64 (if kept == 1 then r else FloatKind.f64.encode (.nan s (FloatKind.f64.format.quiet t))))
          | d => pure (.float .f64 (FloatKind.f64.encode (d.integral way)))) := rfl
        rw [hs, hu]
        split
        · rename_i s t hd; exact (g4 s t hd).elim
        · simp [g5 way hw]
      exact key _ _ rfl (.inr rfl)
    rename_i p hp
    simp only [Option.some.injEq] at h; subst h
    obtain ⟨m, f', ka⟩ := wholeOf_ok hr hp ha
    have e1 := ka.v
    subst e1
    have key : ∀ (name : String) (way : Ieee.Toward), x.sem = Extern.MathFloor.toIntegral name way → CallsB B G w0 P E [mkWhole S p.n p.ex p.lo p.hi] f [.float .f64 f'] w := fun name way hs => by
      obtain ⟨r, hr1, hr2, hr3⟩ : ∃ r, r = FloatKind.f64.encode ((FloatKind.f64.decode f').integral way) ∧ WholeF m r ∧ (f' = FloatKind.f64.nearest m → r = FloatKind.f64.nearest m) := by
        obtain ⟨b, e, h1, h2⟩ := intg_whole (way := way) (v := .float .f64 (FloatKind.f64.encode ((FloatKind.f64.decode f').integral way))) ka.w ⟨_, rfl, fun _ => rfl⟩
        cases e
        exact ⟨_, rfl, h1, h2⟩
      obtain ⟨F, g1, g2, g3⟩ := mkWhole_ok hr ka.n hr2 (ex := p.ex) (fun h => hr3 (ka.ex h)) ka.lo ka.hi
      refine ⟨_, List.mem_cons_self, F, _, w, g1, g2, g3, ?_⟩
      rw [hX _ (find_mem hx)]
      show ((x.sem #[.float .f64 f']).run P w).andThen _ = _
      have hu : Extern.MathFloor.toIntegral name way #[.float .f64 f'] = (match FloatKind.f64.decode f' with
        | .nan s t => if FloatKind.f64.format.quiet t = t then pure (.float .f64 f') else do
          let kept ← choose (.extern "math.Floor,Ceil,Trunc,RoundToEven.signallingNaN kept" 2)
          pure (.float .f64 (if kept == 1 then f' else FloatKind.f64.encode (.nan s (FloatKind.f64.format.quiet t))))
        | d => pure (.float .f64 (FloatKind.f64.encode (d.integral way)))) := rfl
      rw [hs, hu]
      have hnn := not_nan (whole_sv ka.w).1
      split
      · rename_i s t hd; exact (hnn s t hd).elim
      · simp [hr1]
    cases x with
    | fbits => exact (hn2 rfl).elim
    | ffrom => exact (hn1 rfl).elim
    | sqrt => exact (hn3 rfl).elim
    | floor => exact key _ _ rfl
    | ceil => exact key _ _ rfl
    | trunc => exact key _ _ rfl
  · cases h
end
end Go.Ev
