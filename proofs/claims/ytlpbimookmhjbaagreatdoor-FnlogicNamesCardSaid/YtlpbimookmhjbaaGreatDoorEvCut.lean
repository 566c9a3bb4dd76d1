/- At a function's return: the blocks that it made and that nothing reaches are dropped, and their numbers are free again. -/
import Derived.Test.YtlpbimookmhjbaaGreatDoorEvNarrow
namespace Go.Ev
open Go.RowKit (Below)

mutual
/-- All blocks that are named have numbers below n. -/
def SV.under (n : Nat) : SV → Bool
  | .val _ => true
  | .sym _ => true
  | .ptr id _ => Nat.blt id n
  | .slice id _ _ _ => Nat.blt id n
  | .map id => Nat.blt id n
  | .func _ a b => SV.underL n a && SV.underL n b
  | .iface _ v => v.under n
  | .agg cs => SV.underL n cs
  | .tuple cs => SV.underL n cs
def SV.underL (n : Nat) : List SV → Bool
  | [] => true
  | x :: r => x.under n && SV.underL n r
end

mutual
/-- The blocks from n on that are named. -/
def SV.tops (n : Nat) : SV → List Nat → List Nat
  | .val _, l => l
  | .sym _, l => l
  | .ptr id _, l => bif Nat.blt id n then l else id :: l
  | .slice id _ _ _, l => bif Nat.blt id n then l else id :: l
  | .map id, l => bif Nat.blt id n then l else id :: l
  | .func _ a b, l => SV.topsL n a (SV.topsL n b l)
  | .iface _ v, l => v.tops n l
  | .agg cs, l => SV.topsL n cs l
  | .tuple cs, l => SV.topsL n cs l
def SV.topsL (n : Nat) : List SV → List Nat → List Nat
  | [], l => l
  | x :: r, l => x.tops n (SV.topsL n r l)
end

def Env.cut (E : Env) (n : Nat) : Env := { E with ρ := fun i => bif Nat.blt i n then E.ρ i else none }

theorem blt_of {i n : Nat} (h : Nat.blt i n = true) : i < n := Nat.le_of_ble_eq_true h
theorem blt_mk {i n : Nat} (h : i < n) : Nat.blt i n = true := Nat.ble_eq_true_of_le h

theorem Env.cut_at {E : Env} {n i : Nat} (h : Nat.blt i n = true) : (E.cut n).ρ i = E.ρ i := by simp only [Env.cut, h, cond_true]
theorem Env.cut_some {E : Env} {n i b : Nat} (h : (E.cut n).ρ i = some b) : Nat.blt i n = true ∧ E.ρ i = some b := by
  simp only [Env.cut] at h
  cases e : Nat.blt i n with
  | true => rw [e] at h; exact ⟨rfl, h⟩
  | false => rw [e] at h; cases h

theorem Cap.den_cut {E : Env} {n : Nat} : ∀ (c : Cap), c.den (E.cut n) = c.den E
  | .k _ => rfl
  | .v _ => rfl

mutual
theorem SV.den_cut {E : Env} {n : Nat} : ∀ (x : SV), x.under n = true → x.den (E.cut n) = x.den E
  | .val _, _ => rfl
  | .sym _, _ => rfl
  | .ptr id off, h => by
    simp only [SV.under] at h
    simp only [SV.den, Env.cut_at h]
  | .slice id off len c, h => by
    simp only [SV.under] at h
    simp only [SV.den, Env.cut_at h, Cap.den_cut]
  | .map id, h => by
    simp only [SV.under] at h
    simp only [SV.den, Env.cut_at h]
  | .func fn a b, h => by
    simp only [SV.under, Bool.and_eq_true] at h
    simp only [SV.den, SV.denL_cut a h.1, SV.denL_cut b h.2]
  | .iface t v, h => by
    simp only [SV.under] at h
    simp only [SV.den, SV.den_cut v h]
  | .agg cs, h => by
    simp only [SV.under] at h
    simp only [SV.den, SV.denL_cut cs h]
  | .tuple cs, h => by
    simp only [SV.under] at h
    simp only [SV.den, SV.denL_cut cs h]
theorem SV.denL_cut {E : Env} {n : Nat} : ∀ (l : List SV), SV.underL n l = true → SV.denL (E.cut n) l = SV.denL E l
  | [], _ => rfl
  | x :: r, h => by
    simp only [SV.underL, Bool.and_eq_true] at h
    simp only [SV.denL, SV.den_cut x h.1, SV.denL_cut r h.2]
end

def underE (n : Nat) : List (SV × SV × Nat) → Bool
  | [] => true
  | e :: r => e.1.under n && (e.2.1.under n && underE n r)

def SObj.under (n : Nat) : SObj → Bool
  | .row cs _ _ _ => SV.underL n cs
  | .map es _ => underE n es
  | .siter _ _ => true
  | .miter none _ _ _ => true
  | .miter (some id) _ _ _ => Nat.blt id n
  | .bag es => underE n es

def topsE (n : Nat) : List (SV × SV × Nat) → List Nat → List Nat
  | [], l => l
  | e :: r, l => e.1.tops n (e.2.1.tops n (topsE n r l))

def SObj.tops (n : Nat) : SObj → List Nat → List Nat
  | .row cs _ _ _, l => SV.topsL n cs l
  | .map es _, l => topsE n es l
  | .siter _ _, l => l
  | .miter none _ _ _, l => l
  | .miter (some id) _ _ _, l => bif Nat.blt id n then l else id :: l
  | .bag es, l => topsE n es l

theorem MRel.cut {E : Env} {n : Nat} : ∀ {xs : List (SV × SV × Nat)} {ms : List MapEntry}, underE n xs = true → MRel E xs ms → MRel (E.cut n) xs ms
  | [], [], _, _ => trivial
  | x :: xs, m :: ms, h, ⟨a, b, c, d⟩ => by
    simp only [underE, Bool.and_eq_true] at h
    exact ⟨by rw [SV.den_cut _ h.1]; exact a, by rw [SV.den_cut _ h.2.1]; exact b, c, MRel.cut h.2.2 d⟩
  | [], _ :: _, _, k => k.elim
  | _ :: _, [], _, k => k.elim

theorem underE_mem {n : Nat} : ∀ {xs : List (SV × SV × Nat)}, underE n xs = true → ∀ e ∈ xs, e.1.under n = true ∧ e.2.1.under n = true
  | [], _, e, he => by cases he
  | x :: xs, h, e, he => by
    simp only [underE, Bool.and_eq_true] at h
    cases he with
    | head => exact ⟨h.1, h.2.1⟩
    | tail _ he => exact underE_mem h.2.2 e he

theorem BRel.cut {E : Env} {n : Nat} {es : List (SV × SV × Nat)} {l : List MapEntry} {c : Nat} (h : underE n es = true) (k : BRel E es l c) : BRel (E.cut n) es l c :=
  ⟨k.1, k.2.1, k.2.2.1, fun m hm => by
    obtain ⟨e, h1, h2, h3⟩ := k.2.2.2.1 m hm
    obtain ⟨u1, u2⟩ := underE_mem h e h1
    exact ⟨e, h1, by rw [SV.den_cut _ u1]; exact h2, by rw [SV.den_cut _ u2]; exact h3⟩,
   fun e he => by
    obtain ⟨m, h1, h2, h3⟩ := k.2.2.2.2 e he
    obtain ⟨u1, u2⟩ := underE_mem h e he
    exact ⟨m, h1, by rw [SV.den_cut _ u1]; exact h2, by rw [SV.den_cut _ u2]; exact h3⟩⟩

theorem ORel.cut {E : Env} {n : Nat} {s : SObj} {o : Obj} (h : s.under n = true) (k : ORel E s o) : ORel (E.cut n) s o := by
  cases s with
  | row cs e fz ext =>
    simp only [SObj.under] at h
    cases ext with
    | none => obtain ⟨l, fz, h1, h2⟩ := k; exact ⟨l, fz, by rw [SV.denL_cut _ h]; exact h1, h2⟩
    | some p => obtain ⟨i, u⟩ := p; obtain ⟨l, r, m, fz, h1, h2, h3, h4⟩ := k; exact ⟨l, r, m, fz, by rw [SV.denL_cut _ h]; exact h1, h2, h3, h4⟩
  | map es c =>
    obtain ⟨l, h1, h2⟩ := k
    exact ⟨l, h1, h2.cut h⟩
  | siter s p => exact k
  | bag es =>
    obtain ⟨l, c, h1, h2⟩ := k
    exact ⟨l, c, h1, h2.cut h⟩
  | miter m a b c =>
    cases m with
    | none => exact k
    | some id =>
      simp only [SObj.under] at h
      obtain ⟨x, h1, h2⟩ := k
      exact ⟨x, by rw [Env.cut_at h]; exact h1, h2⟩

/-! ### The heap's part -/
def keepH (p : Nat → Bool) : List (Nat × SObj) → List (Nat × SObj)
  | [] => []
  | x :: r => bif p x.1 then x :: keepH p r else keepH p r

theorem find_keep {p : Nat → Bool} {i : Nat} {o : SObj} : ∀ {l : List (Nat × SObj)}, find i (keepH p l) = some o → p i = true ∧ find i l = some o
  | [], h => by cases h
  | (j, y) :: r, h => by
    simp only [keepH] at h
    cases e : Nat.beq i j with
    | true =>
      have := Nat.eq_of_beq_eq_true e
      subst this
      cases hp : p i with
      | true =>
        rw [hp] at h
        simp only [cond_true, find, e] at h ⊢
        exact ⟨trivial, h⟩
      | false =>
        rw [hp] at h
        simp only [cond_false] at h
        have := (find_keep h).1
        rw [hp] at this; cases this
    | false =>
      have : find i (keepH p r) = some o := by
        cases hp : p j with
        | true => rw [hp] at h; simp only [cond_true, find, e, cond_false] at h; exact h
        | false => rw [hp] at h; exact h
      obtain ⟨h1, h2⟩ := find_keep this
      exact ⟨h1, by simp only [find, e, cond_false]; exact h2⟩

def cleanH (n : Nat) : List (Nat × SObj) → Bool
  | [] => true
  | x :: r => bif Nat.blt x.1 n then x.2.under n && cleanH n r else cleanH n r

theorem cleanH_ok {n : Nat} : ∀ {l : List (Nat × SObj)}, cleanH n l = true → ∀ {i : Nat} {o : SObj}, Nat.blt i n = true → find i l = some o → o.under n = true
  | [], _, _, _, _, h => by cases h
  | (j, y) :: r, hc, i, o, hi, h => by
    simp only [cleanH] at hc
    simp only [find] at h
    cases e : Nat.beq i j with
    | true =>
      have := Nat.eq_of_beq_eq_true e
      subst this
      rw [e] at h
      simp only [cond_true, Option.some.injEq] at h; subst h
      rw [hi] at hc
      simp only [cond_true, Bool.and_eq_true] at hc
      exact hc.1
    | false =>
      rw [e] at h
      simp only [cond_false] at h
      refine cleanH_ok (l := r) ?_ hi h
      cases k : Nat.blt j n with
      | true => rw [k] at hc; simp only [cond_true, Bool.and_eq_true] at hc; exact hc.2
      | false => rw [k] at hc; exact hc

def allUnder (n : Nat) : List Nat → Bool
  | [] => true
  | i :: r => Nat.blt i n && allUnder n r
theorem allUnder_ok {n i : Nat} : ∀ {l : List Nat}, allUnder n l = true → isInN i l = true → Nat.blt i n = true
  | [], _, h => by cases h
  | j :: r, hc, h => by
    simp only [allUnder, Bool.and_eq_true] at hc
    simp only [isInN] at h
    cases e : Nat.beq i j with
    | true => rw [Nat.eq_of_beq_eq_true e]; exact hc.1
    | false => rw [e] at h; exact allUnder_ok hc.2 h

def factsUnder (n : Nat) : List Fact_ → Bool
  | [] => true
  | q :: r => SV.underL n q.args && (q.res.under n && factsUnder n r)
theorem factsUnder_mem {n : Nat} : ∀ {l : List Fact_}, factsUnder n l = true → ∀ q ∈ l, SV.underL n q.args = true ∧ q.res.under n = true
  | [], _, q, hq => by cases hq
  | x :: r, h, q, hq => by
    simp only [factsUnder, Bool.and_eq_true] at h
    cases hq with
    | head => exact ⟨h.1, h.2.1⟩
    | tail _ hq => exact factsUnder_mem h.2.2 q hq

def clean (n : Nat) (v : SV) (S : St) : Bool := v.under n && (cleanH n S.heap && (allUnder n S.gs && factsUnder n S.facts))

/-- The blocks that are reached: those in 'todo', and on from there. -/
def closeM (n : Nat) (h : List (Nat × SObj)) : Nat → List Nat → List Nat → Option (List Nat)
  | 0, _, _ => none
  | _ + 1, [], seen => some seen
  | k + 1, i :: r, seen => bif isInN i seen then closeM n h k r seen else match find i h with
    | some o => closeM n h k (o.tops n r) (i :: seen)
    | none => closeM n h k r (i :: seen)

def topsH (n : Nat) : List (Nat × SObj) → List Nat → List Nat
  | [], l => l
  | x :: r, l => bif Nat.blt x.1 n then x.2.tops n (topsH n r l) else topsH n r l

def gcSt (n : Nat) (v : SV) (S : St) : St :=
  bif Nat.ble S.next n then S else
  bif clean n v S then { S with heap := keepH (fun i => Nat.blt i n) S.heap, next := n } else
  match closeM n S.heap 1000 (v.tops n (topsH n S.heap [])) [] with
  | some seen => { S with heap := keepH (fun i => Nat.blt i n || isInN i seen) S.heap }
  | none => S

section
variable {B G : Nat} {w0 : Start} {E : Env} {S : St} {w : World}

theorem Rel.kept (h : Rel B G w0 E S w) (p : Nat → Bool) : Rel B G w0 E { S with heap := keepH p S.heap } w :=
  { h with
    heap := fun i o hi => h.heap i o (find_keep hi).2
    inj := fun i j a b c hi hj => h.inj i j a b c (find_keep hi).2 (find_keep hj).2
    own := fun i o b hi => h.own i o b (find_keep hi).2
    apart := fun l hl ho v hv b hb => by
      obtain ⟨h1, h2⟩ := h.apart l hl ho v hv b hb
      exact ⟨fun i o hi => h1 i o (find_keep hi).2, h2⟩ }

theorem Rel.cut (h : Rel B G w0 E S w) {n : Nat} {v : SV} (hc : clean n v S = true) : Rel B G w0 (E.cut n) { S with heap := keepH (fun i => Nat.blt i n) S.heap, next := n } w := by
  simp only [clean, Bool.and_eq_true] at hc
  obtain ⟨_, c1, c2, c3⟩ := hc
  exact
  { heap := fun i o hi => by
      obtain ⟨h1, h2⟩ := find_keep hi
      obtain ⟨b, x, k1, k2, k3⟩ := h.heap i o h2
      exact ⟨b, x, by rw [Env.cut_at h1]; exact k1, k2, k3.cut (cleanH_ok c1 h1 h2)⟩
    inj := fun i j a b c hi hj hi' hj' => h.inj i j a b c (find_keep hi).2 (find_keep hj).2 (Env.cut_some hi').2 (Env.cut_some hj').2
    newρ := fun i hi => by
      have hi : n ≤ i := hi
      cases e : (E.cut n).ρ i with
      | none => rfl
      | some b => have := blt_of (Env.cut_some e).1; omega
    newσ := h.newσ
    newκ := h.newκ
    dom := fun i b hb => h.dom i b (Env.cut_some hb).2
    own := fun i o b hi hg hb => h.own i o b (find_keep hi).2 hg (Env.cut_some hb).2
    base := h.base
    below := h.below
    lows := h.lows
    sorts := h.sorts
    pc := h.pc
    glob := fun i hi => by rw [Env.cut_at (allUnder_ok c2 hi)]; exact h.glob i hi
    pins := h.pins
    ro := h.ro
    ra := h.ra
    deeps := h.deeps
    facts := fun q hq => by
      obtain ⟨vs, v, h1, h2, h3⟩ := h.facts q hq
      obtain ⟨u1, u2⟩ := factsUnder_mem c3 q hq
      exact ⟨vs, v, by rw [SV.denL_cut _ u1]; exact h1, by rw [SV.den_cut _ u2]; exact h2, h3⟩
    lists := fun l hl => by
      obtain ⟨v, cells, hr⟩ := h.lists l hl
      exact ⟨v, cells, { hr with s := hr.s, x := hr.x }⟩
    apart := fun l hl ho v hv b hb => by
      obtain ⟨h1, h2⟩ := h.apart l hl ho v hv b hb
      refine ⟨fun i o hi e => ?_, h2⟩
      exact h1 i o (find_keep hi).2 (Env.cut_some e).2 }

/-- What the caller knew it still knows. -/
theorem Env.le_cut {E F : Env} {n : Nat} (h : E.le F) (hn : ∀ i, n ≤ i → E.ρ i = none) : E.le (F.cut n) :=
  ⟨(fun i b hb => by
    rcases Nat.lt_or_ge i n with c | c
    · rw [Env.cut_at (blt_mk c)]; exact h.ρ i b hb
    · rw [hn i c] at hb; cases hb), h.σ, h.κ⟩

theorem gc_ok {F : Env} {n : Nat} {v : SV} {u : Value} (hE : E.le F) (hn : ∀ i, n ≤ i → E.ρ i = none) (h : Rel B G w0 F S w) (hv : v.den F = some u) :
    ∃ F', E.le F' ∧ Rel B G w0 F' (gcSt n v S) w ∧ v.den F' = some u := by
  unfold gcSt
  cases Nat.ble S.next n with
  | true => exact ⟨F, hE, h, hv⟩
  | false =>
    simp only [cond_false]
    cases hc : clean n v S with
    | true =>
      refine ⟨F.cut n, Env.le_cut hE hn, h.cut hc, ?_⟩
      simp only [clean, Bool.and_eq_true] at hc
      rw [SV.den_cut _ hc.1]; exact hv
    | false =>
      simp only [cond_false]
      split
      · exact ⟨F, hE, h.kept _, hv⟩
      · exact ⟨F, hE, h, hv⟩

theorem gcSt_bad (n : Nat) (v : SV) (S : St) : (gcSt n v S).bad = S.bad := by
  unfold gcSt
  cases Nat.ble S.next n with
  | true => rfl
  | false =>
    simp only [cond_false]
    cases clean n v S with
    | true => rfl
    | false =>
      simp only [cond_false]
      split <;> rfl
end
end Go.Ev
