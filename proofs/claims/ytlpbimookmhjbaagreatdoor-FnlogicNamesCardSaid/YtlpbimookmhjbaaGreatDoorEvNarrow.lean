/- What is told of numbers, narrowed by what a test has said. -/
import Derived.Test.YtlpbimookmhjbaaGreatDoorEvCore
namespace Go.Ev
open Go.RowKit (Below)

def defOf (n : Nat) : List Fact_ → Option Fact_
  | [] => none
  | q :: r => match q.res with
    | .sym m => bif Nat.beq n m then some q else defOf n r
    | _ => defOf n r

theorem defOf_mem {n : Nat} : ∀ {fs : List Fact_} {q : Fact_}, defOf n fs = some q → q ∈ fs ∧ q.res = .sym n
  | [], q, h => by cases h
  | x :: r, q, h => by
    simp only [defOf] at h
    split at h
    · rename_i m hm
      cases e : Nat.beq n m with
      | true =>
        rw [e] at h
        simp only [cond_true, Option.some.injEq] at h; subst h
        exact ⟨List.mem_cons_self, by rw [hm, Nat.eq_of_beq_eq_true e]⟩
      | false =>
        rw [e] at h
        obtain ⟨h1, h2⟩ := defOf_mem h
        exact ⟨List.mem_cons_of_mem _ h1, h2⟩
    · obtain ⟨h1, h2⟩ := defOf_mem h
      exact ⟨List.mem_cons_of_mem _ h1, h2⟩

section
variable {B G : Nat} {w0 : Start} {E : Env} {S : St} {w : World} {P : Program}

/-! ### Numbers -/
def intOf (S : St) : SV → Option (IntKind × Option Int × Option Int)
  | .val (.int k b) => some (k, some b, some b)
  | .sym n => match find n S.sorts with
    | some (.is (.int k b)) => some (k, some b, some b)
    | some (.int k) => some (k, none, none)
    | some (.intIn k lo hi) => some (k, lo, hi)
    | _ => none
  | _ => none

def IntV (v : Value) (p : IntKind × Option Int × Option Int) : Prop := ∃ n, v = .int p.1 n ∧ (∀ a, p.2.1 = some a → a ≤ n) ∧ ∀ b, p.2.2 = some b → n ≤ b

theorem intOf_ok (hr : ERel E S) {x : SV} {p : IntKind × Option Int × Option Int} {v : Value} (h : intOf S x = some p) (hx : x.den E = some v) : IntV v p := by
  unfold intOf at h
  split at h
  · simp only [Option.some.injEq] at h; subst h
    simp only [SV.den, Option.some.injEq] at hx; subst hx
    exact ⟨_, rfl, fun a e => by cases e; exact Int.le_refl _, fun a e => by cases e; exact Int.le_refl _⟩
  · rename_i n
    simp only [SV.den] at hx
    split at h
    · rename_i k b hb
      simp only [Option.some.injEq] at h; subst h
      obtain ⟨u, hu, hf⟩ := hr.sorts _ _ hb
      rw [hu] at hx; cases hx
      exact ⟨b, hf, fun a e => by cases e; exact Int.le_refl _, fun a e => by cases e; exact Int.le_refl _⟩
    · rename_i k hb
      simp only [Option.some.injEq] at h; subst h
      obtain ⟨u, hu, m, rfl⟩ := hr.sorts _ _ hb
      rw [hu] at hx; cases hx
      exact ⟨m, rfl, (fun a e => by cases e), (fun a e => by cases e)⟩
    · rename_i k lo hi hb
      simp only [Option.some.injEq] at h; subst h
      obtain ⟨u, hu, m, rfl, h1, h2⟩ := hr.sorts _ _ hb
      rw [hu] at hx; cases hx
      exact ⟨m, rfl, h1, h2⟩
    · cases h
  · cases h

def setSort (S : St) (n : Nat) (s : Sort_) : St := { S with sorts := upd n s S.sorts }

theorem Rel.setSort (h : Rel B G w0 E S w) {n : Nat} {s0 s : Sort_} {v : Value} (hf : find n S.sorts = some s0) (hv : E.σ n = some v) (hs : s.fits v) : Rel B G w0 E (setSort S n s) w :=
  { h with
    sorts := fun i x hi => by
      by_cases e : i = n
      · subst e
        simp only [Go.Ev.setSort] at hi
        rw [find_upd_self s hf] at hi
        cases hi
        exact ⟨v, hv, hs⟩
      · simp only [Go.Ev.setSort] at hi
        rw [find_upd_ne e] at hi
        exact h.sorts i x hi }

/-! ### Narrowing -/
inductive Cmp where
  | lt | le | gt | ge | eq | ne

def cmpOf (op : BinOp) (b : Bool) : Option Cmp :=
  match op, b with
  | .lss, true => some .lt
  | .lss, false => some .ge
  | .leq, true => some .le
  | .leq, false => some .gt
  | .gtr, true => some .gt
  | .gtr, false => some .le
  | .geq, true => some .ge
  | .geq, false => some .lt
  | .eql, true => some .eq
  | .eql, false => some .ne
  | .neq, true => some .ne
  | .neq, false => some .eq
  | _, _ => none

def Cmp.says : Cmp → Int → Int → Prop
  | .lt, a, b => a < b
  | .le, a, b => a ≤ b
  | .gt, a, b => b < a
  | .ge, a, b => b ≤ a
  | .eq, a, b => a = b
  | .ne, a, b => a ≠ b

def Cmp.flip : Cmp → Cmp
  | .lt => .gt
  | .le => .ge
  | .gt => .lt
  | .ge => .le
  | c => c

theorem Cmp.flip_says {c : Cmp} {a b : Int} (h : c.says a b) : c.flip.says b a := by
  cases c <;> simp only [Cmp.says, Cmp.flip] at h ⊢ <;> omega

theorem cmpOf_ok {op : BinOp} {b : Bool} {c : Cmp} (h : cmpOf op b = some c) {k : IntKind} {x y : Int} (hv : intV op k x k y = some (.bool b)) : c.says x y := by
  cases op <;> simp only [intV, ibin, if_true, reduceCtorEq, Option.some.injEq, Value.bool.injEq, ishift] at hv <;> first | (subst hv) | skip
  all_goals first | (split at hv <;> simp at hv; done) | skip
  all_goals simp only [cmpOf] at h
  all_goals (split at h <;> first | (cases h; done) | skip)
  all_goals (simp only [Option.some.injEq] at h; subst h; simp only [Cmp.says])
  all_goals simp_all
  all_goals omega

def minO (a b : Option Int) : Option Int := match a, b with
  | some x, some y => some (bif decide (x ≤ y) then x else y)
  | some x, none => some x
  | none, b => b
def maxO (a b : Option Int) : Option Int := match a, b with
  | some x, some y => some (bif decide (x ≤ y) then y else x)
  | some x, none => some x
  | none, b => b

theorem minO_ok {a b : Option Int} {n : Int} (ha : ∀ x, a = some x → n ≤ x) (hb : ∀ x, b = some x → n ≤ x) : ∀ x, minO a b = some x → n ≤ x := by
  intro x h
  unfold minO at h
  split at h
  · rename_i u v
    have := ha _ rfl; have := hb _ rfl
    cases e : decide (u ≤ v) <;> rw [e] at h <;> simp at h <;> omega
  · cases h; exact ha _ rfl
  · exact hb _ h
theorem maxO_ok {a b : Option Int} {n : Int} (ha : ∀ x, a = some x → x ≤ n) (hb : ∀ x, b = some x → x ≤ n) : ∀ x, maxO a b = some x → x ≤ n := by
  intro x h
  unfold maxO at h
  split at h
  · rename_i u v
    have := ha _ rfl; have := hb _ rfl
    cases e : decide (u ≤ v) <;> rw [e] at h <;> simp at h <;> omega
  · cases h; exact ha _ rfl
  · exact hb _ h

def addO (a : Option Int) (d : Int) : Option Int := match a with
  | some x => some (x + d)
  | none => none
theorem addO_some {a : Option Int} {d x : Int} (h : addO a d = some x) : ∃ y, a = some y ∧ x = y + d := by
  unfold addO at h; split at h
  · cases h; exact ⟨_, rfl, rfl⟩
  · cases h

def isO (a : Option Int) (x : Int) : Bool := match a with
  | some y => decide (x = y)
  | none => false
theorem isO_ok {a : Option Int} {x : Int} (h : isO a x = true) : a = some x := by
  unfold isO at h; split at h
  · simp only [decide_eq_true_eq] at h; rw [h]
  · cases h

/-- The bounds of a number, out of what it is to another one. -/
def Cmp.cut (c : Cmp) (lx hx ly hy : Option Int) : Option Int × Option Int :=
  match c with
  | .lt => (lx, minO hx (addO hy (-1)))
  | .le => (lx, minO hx hy)
  | .gt => (maxO lx (addO ly 1), hx)
  | .ge => (maxO lx ly, hx)
  | .eq => (maxO lx ly, minO hx hy)
  | .ne => match ly with
    | some d => bif isO hy d then (bif isO lx d then some (d + 1) else lx, bif isO hx d then some (d - 1) else hx) else (lx, hx)
    | none => (lx, hx)

theorem Cmp.cut_ok {c : Cmp} {lx hx ly hy : Option Int} {n m : Int} (h : c.says n m) (h1 : ∀ a, lx = some a → a ≤ n) (h2 : ∀ a, hx = some a → n ≤ a) (h3 : ∀ a, ly = some a → a ≤ m) (h4 : ∀ a, hy = some a → m ≤ a) :
    (∀ a, (c.cut lx hx ly hy).1 = some a → a ≤ n) ∧ ∀ a, (c.cut lx hx ly hy).2 = some a → n ≤ a := by
  cases c <;> simp only [Cmp.says] at h <;> simp only [Cmp.cut]
  case lt => exact ⟨h1, minO_ok h2 fun x e => by obtain ⟨y, e1, rfl⟩ := addO_some e; have := h4 _ e1; omega⟩
  case le => exact ⟨h1, minO_ok h2 fun x e => by have := h4 _ e; omega⟩
  case gt => exact ⟨maxO_ok h1 fun x e => by obtain ⟨y, e1, rfl⟩ := addO_some e; have := h3 _ e1; omega, h2⟩
  case ge => exact ⟨maxO_ok h1 fun x e => by have := h3 _ e; omega, h2⟩
  case eq => exact ⟨maxO_ok h1 fun x e => by have := h3 _ e; omega, minO_ok h2 fun x e => by have := h4 _ e; omega⟩
  case ne =>
    split
    · rename_i d
      cases e : isO hy d with
      | false => simp only [cond_false]; exact ⟨h1, h2⟩
      | true =>
        have hm : m = d := by have := h3 d rfl; have := h4 d (isO_ok e); omega
        simp only [cond_true]
        refine ⟨fun a ha => ?_, fun a ha => ?_⟩
        · cases e1 : isO lx d with
          | false => rw [e1] at ha; exact h1 a ha
          | true =>
            rw [e1] at ha
            simp only [cond_true, Option.some.injEq] at ha
            have := h1 d (isO_ok e1); omega
        · cases e1 : isO hx d with
          | false => rw [e1] at ha; exact h2 a ha
          | true =>
            rw [e1] at ha
            simp only [cond_true, Option.some.injEq] at ha
            have := h2 d (isO_ok e1); omega
    · exact ⟨h1, h2⟩

def emptyO (lo hi : Option Int) : Bool := match lo, hi with
  | some a, some b => decide (b < a)
  | _, _ => false

/-- An unknown number's bounds; none: there is no such number. -/
def setIv (S : St) (x : SV) (k : IntKind) (p : Option Int × Option Int) : Option St :=
  bif emptyO p.1 p.2 then none else match x with
  | .sym n => match find n S.sorts with
    | some (.int _) | some (.intIn _ _ _) => some (setSort S n (.intIn k p.1 p.2))
    | _ => some S
  | _ => some S

theorem setIv_ok (hr : Rel B G w0 E S w) {x : SV} {k : IntKind} {p : Option Int × Option Int} {n : Int} (hx : x.den E = some (.int k n)) (h1 : ∀ a, p.1 = some a → a ≤ n) (h2 : ∀ a, p.2 = some a → n ≤ a) :
    ∃ S', setIv S x k p = some S' ∧ Rel B G w0 E S' w := by
  unfold setIv
  have he : emptyO p.1 p.2 = false := by
    unfold emptyO
    split
    · rename_i a b ha hb
      have := h1 a ha; have := h2 b hb
      simp; omega
    · rfl
  rw [he]
  simp only [cond_false]
  split
  · rename_i i
    simp only [SV.den] at hx
    split
    · rename_i k' hs
      exact ⟨_, rfl, hr.setSort hs hx ⟨n, rfl, h1, h2⟩⟩
    · rename_i k' lo hi hs
      exact ⟨_, rfl, hr.setSort hs hx ⟨n, rfl, h1, h2⟩⟩
    · exact ⟨S, rfl, hr⟩
  · exact ⟨S, rfl, hr⟩

/-- What a test of two numbers says of them. -/
def narrowInt (S : St) (op : BinOp) (b : Bool) (x y : SV) : Option St :=
  match cmpOf op b, intOf S x, intOf S y with
  | some c, some (k, lx, hx), some (k', ly, hy) => bif decide (k = k') then
      (match setIv S x k (c.cut lx hx ly hy) with
      | none => none
      | some S1 => setIv S1 y k (c.flip.cut ly hy lx hx)) else some S
  | _, _, _ => some S

theorem narrowInt_ok (hr : Rel B G w0 E S w) {op : BinOp} {b : Bool} {x y : SV} {k : IntKind} {n m : Int} (hx : x.den E = some (.int k n)) (hy : y.den E = some (.int k m)) (hv : intV op k n k m = some (.bool b)) :
    ∃ S', narrowInt S op b x y = some S' ∧ Rel B G w0 E S' w := by
  unfold narrowInt
  split
  · rename_i c k1 lx ux k2 ly uy hc h1 h2
    obtain ⟨n', e1, hn1, hn2⟩ := intOf_ok hr.env h1 hx
    obtain ⟨m', e2, hm1, hm2⟩ := intOf_ok hr.env h2 hy
    cases e1; cases e2
    simp only at hn1 hn2 hm1 hm2
    have hs := cmpOf_ok hc hv
    simp only [decide_true, cond_true]
    obtain ⟨a1, a2⟩ := Cmp.cut_ok hs hn1 hn2 hm1 hm2
    obtain ⟨b1, b2⟩ := Cmp.cut_ok (Cmp.flip_says hs) hm1 hm2 hn1 hn2
    obtain ⟨S1, e1, hr1⟩ := setIv_ok hr hx a1 a2
    rw [e1]
    exact setIv_ok hr1 hy b1 b2
  · exact ⟨S, rfl, hr⟩

/-- What is known once the unknown n is b. -/
def narrow : Nat → Nat → Bool → St → Option St
  | 0, _, _, S => some S
  | d + 1, n, b, S => match defOf n S.facts with
    | some q => match q.op, q.args with
      | .int op _, [x, y] => narrowInt S op b x y
      | .un .not, [.sym m] => match find m S.pc with
        | some c => bif c == b then none else some S
        | none => narrow d m (!b) { S with pc := (m, !b) :: S.pc }
      | _, _ => some S
    | none => some S

theorem Rel.withPc {E : Env} {S : St} {w : World} (h : Rel B G w0 E S w) {n : Nat} {b : Bool} (hb : E.σ n = some (.bool b)) :
    Rel B G w0 E { S with pc := (n, b) :: S.pc } w :=
  { h with
    pc := fun i c hi => by
      simp only [List.mem_cons, Prod.mk.injEq] at hi
      rcases hi with ⟨rfl, rfl⟩ | hi
      · exact hb
      · exact h.pc i c hi }

theorem find_mem {α : Type} {i : Nat} : ∀ {l : List (Nat × α)} {x : α}, find i l = some x → (i, x) ∈ l
  | [], x, h => by cases h
  | (j, y) :: r, x, h => by
    simp only [find] at h
    cases e : Nat.beq i j with
    | true =>
      have : i = j := Nat.eq_of_beq_eq_true e
      subst this
      rw [e] at h; simp at h; subst h; exact List.mem_cons_self
    | false => rw [e] at h; exact List.mem_cons_of_mem _ (find_mem h)

theorem setIv_ds {x : SV} {k : IntKind} {p : Option Int × Option Int} {S S' : St} (h : setIv S x k p = some S') : S'.ds = S.ds := by
  unfold setIv at h
  cases e : emptyO p.1 p.2 with
  | true => rw [e] at h; cases h
  | false =>
    rw [e] at h
    simp only [cond_false] at h
    split at h
    · split at h <;> (simp only [Option.some.injEq] at h; subst h; rfl)
    · simp only [Option.some.injEq] at h; subst h; rfl

theorem narrow_ds : ∀ (d n : Nat) (b : Bool) {S S' : St}, narrow d n b S = some S' → S'.ds = S.ds
  | 0, n, b, S, S', h => by simp only [narrow, Option.some.injEq] at h; subst h; rfl
  | d + 1, n, b, S, S', h => by
    simp only [narrow] at h
    have one : some S = some S' → S'.ds = S.ds := fun h => by cases h; rfl
    split at h
    · split at h
      · unfold narrowInt at h
        split at h
        · rename_i c k lx hx k' ly hy _ _ _
          cases e : decide (k = k') with
          | false => rw [e] at h; exact one h
          | true =>
            rw [e] at h
            simp only [cond_true] at h
            split at h
            · cases h
            · rename_i S1 h1
              exact (setIv_ds h).trans (setIv_ds h1)
        · exact one h
      · split at h
        · rename_i c _
          cases e : c == b with
          | true => rw [e] at h; cases h
          | false => rw [e] at h; exact one h
        · exact (narrow_ds d _ _ h :)
      · exact one h
    · exact one h

/-- The ways of a truth that is not known, those that may be. -/
def branch (S : St) (n : Nat) (b : Bool) : List (Bool × St) := match narrow 3 n b { S with pc := (n, b) :: S.pc } with
  | some S' => [(b, S')]
  | none => []

theorem narrow_ok : ∀ (d n : Nat) (b : Bool) {S : St}, Rel B G w0 E S w → E.σ n = some (.bool b) → ∃ S', narrow d n b S = some S' ∧ Rel B G w0 E S' w
  | 0, n, b, S, hr, hn => ⟨S, rfl, hr⟩
  | d + 1, n, b, S, hr, hn => by
    simp only [narrow]
    split
    · rename_i q hq
      obtain ⟨hm, hres⟩ := defOf_mem hq
      obtain ⟨vs, v, h1, h2, h3⟩ := hr.facts q hm
      rw [hres] at h2
      simp only [SV.den] at h2
      rw [hn] at h2; cases h2
      split
      · rename_i op k x y hop hargs
        rw [hop] at h3
        rw [hargs] at h1
        obtain ⟨v1, l1, e1, e2, rfl⟩ := denL_cons h1
        obtain ⟨v2, l2, e3, e4, rfl⟩ := denL_cons e2
        simp only [SV.denL, Option.some.injEq] at e4; subst e4
        have h3 : sopFun (.int op k) [v1, v2] = some (.bool b) := h3
        match v1, v2, h3, e1, e3 with
        | .int k1 a, .int k2 c, h3, e1, e3 =>
          simp only [sopFun] at h3
          split at h3
          · subst_vars
            by_cases hk : k1 = k2
            · subst hk
              exact narrowInt_ok hr e1 e3 h3
            · have : ∃ S', narrowInt S op b x y = some S' ∧ Rel B G w0 E S' w := by
                unfold narrowInt
                split
                · rename_i c' ka lx ux kb ly uy hc g1 g2
                  obtain ⟨n', f1, _⟩ := intOf_ok hr.env g1 e1
                  obtain ⟨m', f2, _⟩ := intOf_ok hr.env g2 e3
                  cases f1; cases f2
                  simp only [decide_eq_false hk, cond_false]
                  exact ⟨S, rfl, hr⟩
                · exact ⟨S, rfl, hr⟩
              exact this
          · cases h3
      · rename_i m hop hargs
        rw [hop] at h3
        rw [hargs] at h1
        obtain ⟨v1, l1, e1, e2, rfl⟩ := denL_cons h1
        simp only [SV.denL, Option.some.injEq] at e2; subst e2
        have h3 : unV .not v1 = some (.bool b) := h3
        simp only [SV.den] at e1
        match v1, h3, e1 with
        | .bool c, h3, e1 =>
          simp only [unV, Option.some.injEq, Value.bool.injEq] at h3
          have hc : c = !b := by cases c <;> cases b <;> simp at h3 ⊢
          subst hc
          split
          · rename_i c' hc'
            have := hr.pc m c' (find_mem hc')
            rw [e1] at this; cases this
            have : ((!b) == b) = false := by cases b <;> rfl
            rw [this]
            exact ⟨S, rfl, hr⟩
          · exact narrow_ok d m (!b) (hr.withPc e1) e1
      · exact ⟨S, rfl, hr⟩
    · exact ⟨S, rfl, hr⟩

theorem branch_ok (hr : Rel B G w0 E S w) {n : Nat} {b : Bool} (hn : E.σ n = some (.bool b)) : ∃ p ∈ branch S n b, p.1 = b ∧ Rel B G w0 E p.2 w := by
  obtain ⟨S', h1, h2⟩ := narrow_ok 3 n b (hr.withPc hn) hn
  unfold branch
  rw [h1]
  exact ⟨_, List.mem_cons_self, rfl, h2⟩

theorem branch_ds {n : Nat} {b : Bool} : ∀ p ∈ branch S n b, p.2.ds = S.ds := by
  intro p hp
  unfold branch at hp
  split at hp
  · rename_i S' h
    simp only [List.mem_singleton] at hp; subst hp
    exact (narrow_ds 3 n b h :)
  · cases hp
end
end Go.Ev
