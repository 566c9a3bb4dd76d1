/- Contracts of functions: flat values, a relation; and how the evaluator shows one. -/
import Derived.Test.YtlinfpchnonbpaaGreatDoorEvLeaf2
import Derived.Test.YtlinfpchnonbpaaGreatDoorEvTop
namespace Go.Ev
open Go.RowKit (Below)
inductive Sh where
  | sc (t : Sort_)
  | list (e : TypeId) (lay : List Sort_)
  | agg (l : List Sh)
  | tup (l : List Sh)
  | whole (ex : Bool) (lo hi : Int)
  | deep (lay : List Lay)
  | row (e : TypeId) (u n : Nat) (cells : List Sh)
structure ListIn (w : World) (lay : List Sort_) (v : Value) (cells : Array Value) : Prop where
  some_ : 0 < lay.length
  few : cells.size / lay.length ≤ 140737488355328
  whole : cells.size = cells.size / lay.length * lay.length
  fit : ∀ (j : Nat) (c : Value), cells[j]? = some c → ∃ t, lay[j % lay.length]? = some t ∧ t.fits c
  at_ : (v = .slice none 0 0 ∧ cells = #[]) ∨ ∃ a cap, v = .slice (some a) (cells.size / lay.length) cap ∧ a.block < w.heap.size ∧ ∀ (j : Nat) (c : Value), cells[j]? = some c → w.cell? (a.add j) = some c
structure ListOut (B : Nat) (w : World) (e : TypeId) (lay : List Sort_) (v : Value) (cells : Array Value) : Prop where
  some_ : 0 < lay.length
  few : cells.size / lay.length ≤ 140737488355328
  whole : cells.size = cells.size / lay.length * lay.length
  fit : ∀ (j : Nat) (c : Value), cells[j]? = some c → ∃ t, lay[j % lay.length]? = some t ∧ t.fits c
  own : w.ownsRow B e lay.length v (cells.size / lay.length) cells.toList
structure ListR where
  list : TypeId → List Sort_ → Value → Array Value → Prop
  deep : List Lay → Value → Value → Prop
  row : TypeId → Nat → Nat → Nat → List Value → Prop
mutual
def Sh.rel (R : ListR) : Sh → Value → List Value → Prop
  | .sc t, v, fl => t.fits v ∧ fl = [v]
  | .list e lay, v, fl => ∃ cells, R.list e lay v cells ∧ v.oneCell' = true ∧ fl = [v, .agg cells]
  | .agg l, v, fl => ∃ vs : List Value, v = .agg vs.toArray ∧ relL R l vs fl
  | .tup l, v, fl => ∃ vs : List Value, v = .tuple vs.toArray ∧ relL R l vs fl
  | .whole ex lo hi, v, fl => ∃ m f, v = .float .f64 f ∧ WholeF m f ∧ (ex = true → f = FloatKind.f64.nearest m) ∧ lo ≤ m ∧ m ≤ hi ∧ fl = [.int .i64 m, v]
  | .deep lay, v, fl => ∃ x, R.deep lay v x ∧ v.oneCell' = true ∧ fl = [v, x]
  | .row e u n cs, v, fl => ∃ (b cap : Nat) (vs f : List Value), R.row e u b cap vs ∧ v = .slice (some ⟨b, 0, none⟩) n cap ∧ relL R cs vs f ∧ fl = v :: f
def relL (R : ListR) : List Sh → List Value → List Value → Prop
  | [], vs, fl => vs = [] ∧ fl = []
  | s :: r, vs, fl => ∃ v vs' f1 f2, vs = v :: vs' ∧ fl = f1 ++ f2 ∧ s.rel R v f1 ∧ relL R r vs' f2
end
abbrev inR (w : World) : ListR := ⟨fun _ lay v c => ListIn w lay v c, fun lay v x => Deep w.heap.size w (.list lay) v x, fun e u b cap vs => ∃ r fz, w.heap[b]? = some (.cells (vs ++ r).toArray e fz) ∧ (vs ++ r).length = cap * u⟩
abbrev outR (B : Nat) (w : World) : ListR := ⟨fun e lay v c => ListOut B w e lay v c, fun _ _ _ => False, fun _ _ _ _ _ => False⟩
mutual
def maskSh : Sh → List Bool
  | .sc _ => [true]
  | .list _ _ => [true, true]
  | .whole _ _ _ => [true, true]
  | .deep _ => [false, true]
  | .row _ _ _ cs => false :: maskL cs
  | .agg l => maskL l
  | .tup l => maskL l
def maskL : List Sh → List Bool
  | [] => []
  | s :: r => maskSh s ++ maskL r
end
mutual
def omaskSh : Sh → List Bool
  | .list _ _ => [false, true]
  | .agg l => omaskL l
  | .tup l => omaskL l
  | s => maskSh s
def omaskL : List Sh → List Bool
  | [] => []
  | s :: r => omaskSh s ++ omaskL r
end
def hide {α : Type} (d : α) : List Bool → List α → List α
  | b :: bs, x :: xs => (bif b then x else d) :: hide d bs xs
  | [], xs => xs
  | _, [] => []
theorem hide_den {E : Env} : ∀ {bs : List Bool} {xs : List SV} {vs : List Value}, SV.denL E xs = some vs → SV.denL E (hide (.val undef) bs xs) = some (hide undef bs vs)
  | [], xs, vs, h => by simpa only [hide] using h
  | b :: bs, [], vs, h => by simp only [SV.denL, Option.some.injEq] at h; subst h; rfl
  | b :: bs, x :: xs, vs, h => by
    obtain ⟨v, l, h1, h2, rfl⟩ := denL_cons h
    cases b with
    | true => exact denL_mk h1 (hide_den h2)
    | false => exact denL_mk (x := .val undef) (v := undef) (by simp only [SV.den]) (hide_den h2)
structure Con where
  f : Nat
  ins : List Sh
  out : Sh
  id : String
  pre : List Value → Prop := fun _ => True
  asks : Bool := false
  rel : List Value → Prop
  fails : Option (TypeId × Sh) := none
  frel : List Value → Prop := fun _ => False
  exd : List Nat := []
  loose : Bool := false
  mrg : List Nat := []
def Con.ends (c : Con) (w : World) (fl : List Value) (e : Ending) (w' : World) : Prop :=
  (∃ v fo, e = .returned v ∧ c.out.rel (outR w.heap.size w') v fo ∧ c.rel (hide undef (maskL c.ins) fl ++ hide undef (omaskSh c.out) fo) ∧ Below w.heap.size w w') ∨
  ∃ t sh v fo, c.fails = some (t, sh) ∧ e = .panicked [entry1 (.iface t v) false] ∧ sh.rel (outR w.heap.size w') v fo ∧ c.frel (hide undef (maskL c.ins) fl ++ hide undef (omaskSh sh) fo) ∧ Below w.heap.size w w'
def Con.ok (P : Program) (cond : World → Prop) (c : Con) : Prop :=
  entersOf P c.f = true ∧ ∀ (w : World) (vs fl : List Value), cond w → relL (inR w) c.ins vs fl → (c.asks = true → c.pre (hide undef (maskL c.ins) fl)) →
    Calls P c.f vs.toArray w (c.ends w fl)
def fitsS2 (S : St) (x : SV) : Sort_ → Bool
  | .intIn k lo hi => match intOf S x with
    | some (k', lx, hx) => decide (k' = k) && ((match lo with | none => true | some a => leO (some a) lx) && (match hi with | none => true | some a => leO hx (some a)))
    | none => false
  | .is v => x.alike (.val v)
  | t => fitsS S x t
mutual
def sameLay : Lay → Lay → Bool
  | .sc t, .sc u => sameSo t u
  | .list a, .list b => sameLays a b
  | _, _ => false
def sameLays : List Lay → List Lay → Bool
  | [], [] => true
  | x :: r, y :: s => sameLay x y && sameLays r s
  | _, _ => false
end
mutual
theorem sameLay_eq : ∀ (x y : Lay), sameLay x y = true → x = y
  | .sc t, .sc u, h => by simp only [sameLay] at h; rw [sameSo_eq h]
  | .list a, .list b, h => by simp only [sameLay] at h; rw [sameLays_eq a b h]
  | .sc _, .list _, h => by simp [sameLay] at h
  | .list _, .sc _, h => by simp [sameLay] at h
theorem sameLays_eq : ∀ (x y : List Lay), sameLays x y = true → x = y
  | [], [], _ => rfl
  | x :: r, y :: s, h => by
    simp only [sameLays, Bool.and_eq_true] at h
    rw [sameLay_eq x y h.1, sameLays_eq r s h.2]
  | [], _ :: _, h => by simp [sameLays] at h
  | _ :: _, [], h => by simp [sameLays] at h
end
def deepCells (S : St) (f : List Lay → SV → Option SV) (lay : List Lay) : Nat → List SV → Option (List SV)
  | _, [] => some []
  | j, c :: r => match (match lay[j % lay.length]? with
      | some (.sc t) => bif fitsS2 S c t then some c else none
      | some (.list l) => f l c
      | none => none), deepCells S f lay (j + 1) r with
    | some x, some l => some (x :: l)
    | _, _ => none
def deepS (S : St) : Nat → List Lay → SV → Option SV
  | 0, _, _ => none
  | d + 1, lay, x => match x with
    | .sym n => match deepAt n S.deeps with
      | some e => bif sameLays e.lay lay then some (.sym e.x) else none
      | none => match listAt n S.lists, allSc lay with
        | some l, some srts => bif sameSos l.lay srts then some (.sym l.x) else none
        | _, _ => none
    | .slice id off len _ => match find id S.heap with
      | some (.row cells _ _ _) => bif Nat.ble (off + len * lay.length) cells.length && (Nat.blt 0 lay.length && Nat.ble len 140737488355328) then
          (match deepCells S (deepS S d) lay 0 ((cells.drop off).take (len * lay.length)) with
          | some l => some (.agg l)
          | none => none) else none
      | _ => none
    | x => bif isNilS x && Nat.blt 0 lay.length then some (.val (.agg #[])) else none
def looseInt (S : St) (x : SV) (k : IntKind) (lo hi : Option Int) : Bool := match intOf S x with
  | some (k', lx, hx) => decide (k' = k) && ((match lo, hx with | some a, some b => decide (a ≤ b) | _, _ => true) && (match hi, lx with | some a, some b => decide (b ≤ a) | _, _ => true))
  | none => false
mutual
def matchSh (S : St) : Sh → SV → Option (List SV × Bool)
  | .sc t, x => bif fitsS2 S x t then some ([x], true) else (match t with
    | .intIn k lo hi => bif looseInt S x k lo hi then some ([x], false) else none
    | _ => none)
  | .list _ lay, x => match x with
    | .sym n => match listAt n S.lists with
      | some l => bif sameSos l.lay lay then some ([.sym n, .sym l.x], true) else none
      | none => none
    | x => bif isNilS x && Nat.blt 0 lay.length then some ([x, .val (.agg #[])], true) else none
  | .agg l, x => match aggOf x with
    | some xs => matchL S l xs
    | none => none
  | .tup l, x => match tupOf x with
    | some xs => matchL S l xs
    | none => none
  | .whole ex lo hi, x => match wholeOf S x with
    | some p => bif (!ex || (p.ex || (decide (0 < p.lo) || decide (p.hi < 0)))) && (decide (lo ≤ p.hi) && decide (p.lo ≤ hi)) then some ([p.n, x], decide (lo ≤ p.lo) && decide (p.hi ≤ hi)) else none
    | none => none
  | .deep lay, x => match deepS S 4 lay x with
    | some y => some ([x, y], true)
    | none => none
  | .row e u n cs, x => match x with
    | .slice id 0 len (.k cp) => match find id S.heap with
      | some (.row cells e' _ none) => bif Nat.beq len n && (Nat.beq e' e && (Nat.beq cells.length (cp * u))) then (match matchL S cs (cells.take (len * u)) with
        | some fl => some (.slice id 0 len (.k cp) :: fl.1, fl.2)
        | none => none) else none
      | _ => none
    | .slice id 0 len (.v i) => match find id S.heap with
      | some (.row cells e' _ (some (j, u'))) => bif Nat.beq len n && (Nat.beq e' e && (Nat.beq i j && Nat.beq u u')) then (match matchL S cs (cells.take (len * u)) with
        | some fl => some (.slice id 0 len (.v i) :: fl.1, fl.2)
        | none => none) else none
      | _ => none
    | _ => none
def matchL (S : St) : List Sh → List SV → Option (List SV × Bool)
  | [], [] => some ([], true)
  | s :: r, x :: xs => match matchSh S s x, matchL S r xs with
    | some a, some b => some (a.1 ++ b.1, a.2 && b.2)
    | _, _ => none
  | _, _ => none
end
def bd1 : Sort_ → Value → Prop
  | .intIn _ lo hi, v => (∀ a, lo = some a → a ≤ iv v) ∧ ∀ b, hi = some b → iv v ≤ b
  | _, _ => True
def bdsM : List Bool → List Sort_ → List Value → Prop
  | true :: ms, t :: ss, v :: vs => bd1 t v ∧ bdsM ms ss vs
  | false :: ms, _ :: ss, _ :: vs => bdsM ms ss vs
  | _, _, _ => True
theorem bdsM_hide : ∀ {ms : List Bool} {ss : List Sort_} {vs : List Value}, bdsM ms ss (hide undef ms vs) → bdsM ms ss vs
  | [], _, _, _ => by simp only [bdsM]
  | true :: ms, [], _, _ => by simp only [bdsM]
  | false :: ms, [], _, _ => by simp only [bdsM]
  | true :: ms, t :: ss, [], _ => by simp only [bdsM]
  | false :: ms, t :: ss, [], _ => by simp only [bdsM]
  | true :: ms, t :: ss, v :: vs, h => by
    simp only [hide, cond_true, bdsM] at h ⊢
    exact ⟨h.1, bdsM_hide h.2⟩
  | false :: ms, t :: ss, v :: vs, h => by
    simp only [hide, bdsM] at h ⊢
    exact bdsM_hide h
theorem bdsM_append : ∀ {m1 m2 : List Bool} {s1 s2 : List Sort_} {v1 v2 : List Value}, m1.length = v1.length → s1.length = v1.length → bdsM (m1 ++ m2) (s1 ++ s2) (v1 ++ v2) → bdsM m1 s1 v1 ∧ bdsM m2 s2 v2
  | [], _, [], _, [], _, _, _, h => ⟨by simp only [bdsM], h⟩
  | true :: m, _, t :: s, _, v :: vs, _, h1, h2, h => by
    simp only [List.cons_append, bdsM] at h ⊢
    obtain ⟨k1, k2⟩ := bdsM_append (by simpa using h1) (by simpa using h2) h.2
    exact ⟨⟨h.1, k1⟩, k2⟩
  | false :: m, _, t :: s, _, v :: vs, _, h1, h2, h => by
    simp only [List.cons_append, bdsM] at h ⊢
    exact bdsM_append (by simpa using h1) (by simpa using h2) h
  | [], _, _, _, _ :: _, _, h1, _, _ => by simp at h1
  | [], _, _ :: _, _, [], _, _, h2, _ => by simp at h2
  | _ :: _, _, _, _, [], _, h1, _, _ => by simp at h1
  | _ :: _, _, [], _, _ :: _, _, _, h2, _ => by simp at h2
def scOf (t : Sort_) (n : Nat) : SV := match t with
  | .is v => .val v
  | _ => .sym n
theorem scOf_den {E : Env} {t : Sort_} {n : Nat} {v : Value} (h : t.fits v) (hn : E.σ n = some v) : (scOf t n).den E = some v := by
  cases t <;> first | exact hn | (simp only [Sort_.fits] at h; subst h; simp only [scOf, SV.den])
mutual
def newSh : Sh → Nat → List Sort_ × SV × List SV
  | .sc t, n => ([t], scOf t n, [scOf t n])
  | .list _ _, n => ([.cell, .any], .sym n, [.sym n, .sym (n + 1)])
  | .agg l, n => let r := newL l n; (r.1, .agg r.2.1, r.2.2)
  | .tup l, n => let r := newL l n; (r.1, .tuple r.2.1, r.2.2)
  | .whole _ lo hi, n => ([.intIn .i64 (some lo) (some hi), .float .f64], .sym (n + 1), [.sym n, .sym (n + 1)])
  | .deep _, n => ([.cell, .any], .sym n, [.sym n, .sym (n + 1)])
  | .row _ _ m cs, n => let r := newL cs (n + 1); (.cell :: r.1, .slice n 0 m (.v n), .slice n 0 m (.v n) :: r.2.2)
def newL : List Sh → Nat → List Sort_ × List SV × List SV
  | [], _ => ([], [], [])
  | s :: r, n => let a := newSh s n; let b := newL r (n + a.1.length); (a.1 ++ b.1, a.2.1 :: b.2.1, a.2.2 ++ b.2.2)
end
mutual
def listsSh (own : Bool) : Sh → Nat → List LEnt
  | .sc _, _ => []
  | .list e lay, n => [{ s := n, x := n + 1, e := e, lay := lay, own := own }]
  | .agg l, n => listsL own l n
  | .tup l, n => listsL own l n
  | .whole _ _ _, _ => []
  | .deep _, _ => []
  | .row _ _ _ cs, n => listsL own cs (n + 1)
def listsL (own : Bool) : List Sh → Nat → List LEnt
  | [], _ => []
  | s :: r, n => listsSh own s n ++ listsL own r (n + (newSh s n).1.length)
end
mutual
def factsSh : Sh → Nat → List Fact_
  | .whole ex _ _, n => [⟨bif ex then .i2f .f64 else .whole, [.sym n], .sym (n + 1)⟩]
  | .agg l, n => factsL l n
  | .tup l, n => factsL l n
  | .row _ _ _ cs, n => factsL cs (n + 1)
  | _, _ => []
def factsL : List Sh → Nat → List Fact_
  | [], _ => []
  | s :: r, n => factsSh s n ++ factsL r (n + (newSh s n).1.length)
end
mutual
def deepsSh : Sh → Nat → List (Nat × List Lay)
  | .deep lay, n => [(n, lay)]
  | .agg l, n => deepsL l n
  | .tup l, n => deepsL l n
  | .row _ _ _ cs, n => deepsL cs (n + 1)
  | _, _ => []
def deepsL : List Sh → Nat → List (Nat × List Lay)
  | [], _ => []
  | s :: r, n => deepsSh s n ++ deepsL r (n + (newSh s n).1.length)
end
mutual
def rowsSh : Sh → Nat → List (Nat × SObj)
  | .row e u _ cs, n => (n, .row (newL cs (n + 1)).2.1 e false (some (n, u))) :: rowsL cs (n + 1)
  | .agg l, n => rowsL l n
  | .tup l, n => rowsL l n
  | _, _ => []
def rowsL : List Sh → Nat → List (Nat × SObj)
  | [], _ => []
  | s :: r, n => rowsSh s n ++ rowsL r (n + (newSh s n).1.length)
end
mutual
def Sh.noRow : Sh → Bool
  | .row _ _ _ _ => false
  | .agg l => noRowL l
  | .tup l => noRowL l
  | _ => true
def noRowL : List Sh → Bool
  | [] => true
  | s :: r => s.noRow && noRowL r
end
def addDeeps : List (Nat × List Lay) → St → St
  | [], S => S
  | p :: r, S => addDeeps r (addDeep S p.1 (p.1 + 1) p.2)
def newSt (S : St) (srts : List Sort_) (ls : List LEnt) (fs : List Fact_ := []) : St := { S with nsym := S.nsym + srts.length, sorts := enumS S.nsym srts ++ S.sorts, lists := ls ++ S.lists, facts := fs ++ S.facts }
def atMost1 : List LEnt → Bool
  | [] => true
  | [_] => true
  | _ => false
def failOut (c : Con) (flat : List SV) (S : St) : Option (List (SV × St)) :=
  match c.fails with
  | none => some []
  | some (t, sh) =>
    let r := newSh sh S.nsym
    bif (listsSh true sh S.nsym).isEmpty && sh.noRow then
      some [(.val undef, { addFact (newSt S r.1 [] (factsSh sh S.nsym)) (.pred (c.id ++ "F") c.frel) (flat ++ hide (.val undef) (omaskSh sh) r.2.2) false with pan := some (.iface t r.2.1) })] else none
def conOne (c : Con) (args : List SV) (S : St) : Option (List (SV × St)) :=
  match matchL S c.ins args with
  | none => none
  | some (flat0, tight) =>
    let flat := hide (.val undef) (maskL c.ins) flat0
    let r := newSh c.out S.nsym
    let ls := listsSh true c.out S.nsym
    bif (tight || c.loose) && (atMost1 ls && c.out.noRow) then
      match failOut c flat S with
      | some fo => some ((r.2.1, addFact (newSt S r.1 ls (factsSh c.out S.nsym)) (.pred c.id c.rel) (flat ++ hide (.val undef) (omaskSh c.out) r.2.2) false) ::
          ((bif tight then [] else [(.val undef, addFact S (.npred (c.id ++ "Bds") (bdsM (maskL c.ins) (newL c.ins 0).1)) flat true)]) ++ ((bif c.asks then [(.val undef, addFact S (.npred (c.id ++ "Pre") c.pre) flat true)] else []) ++ fo)))
      | none => none
    else none
def conSumm : List Con → Nat → List SV → St → Option (List (SV × St))
  | [], _, _, _ => none
  | c :: r, f, args, S => bif Nat.beq c.f f then (match conOne c args S with
    | some l => some l
    | none => conSumm r f args S) else conSumm r f args S
def RowsAt (E : Env) (n : Nat) (fl : List Value) (rs : List (Nat × SObj)) : Prop := ∀ r ∈ rs, ∀ (a : Addr) (l c : Nat), fl[r.1 - n]? = some (.slice (some a) l c) → n ≤ r.1 → E.ρ r.1 = some a.block ∧ E.κ r.1 = some c
def Covers (E : Env) (n : Nat) (fl : List Value) : Prop := ∀ (j : Nat) (v : Value), fl[j]? = some v → E.σ (n + j) = some v
theorem Covers.left {E : Env} {n : Nat} {a b : List Value} (h : Covers E n (a ++ b)) : Covers E n a := fun j v hj => h j v (by
  rw [List.getElem?_append_left (List.getElem?_eq_some_iff.1 hj).1]; exact hj)
theorem Covers.right {E : Env} {n : Nat} {a b : List Value} (h : Covers E n (a ++ b)) : Covers E (n + a.length) b := fun j v hj => by
  have := h (a.length + j) v (by rw [List.getElem?_append_right (by omega), show a.length + j - a.length = j by omega]; exact hj)
  rwa [show n + a.length + j = n + (a.length + j) by omega]
theorem fitsL_append : ∀ {a b : List Sort_} {u v : List Value}, fitsL a u → fitsL b v → fitsL (a ++ b) (u ++ v)
  | [], _, [], _, _, h => h
  | _ :: _, _, _ :: _, _, h, k => ⟨h.1, fitsL_append h.2 k⟩
  | [], _, _ :: _, _, h, _ => h.elim
  | _ :: _, _, [], _, h, _ => h.elim
section
variable {R : ListR}
mutual
theorem newSh_fits : ∀ (s : Sh) (n : Nat) (v : Value) (fl : List Value), s.rel R v fl → fitsL (newSh s n).1 fl
  | .sc t, n, v, fl, h => by
    simp only [Sh.rel] at h
    obtain ⟨h1, rfl⟩ := h
    exact ⟨h1, trivial⟩
  | .list e lay, n, v, fl, h => by
    simp only [Sh.rel] at h
    obtain ⟨cells, _, h1, rfl⟩ := h
    exact ⟨h1, trivial, trivial⟩
  | .agg l, n, v, fl, h => by
    simp only [Sh.rel] at h
    obtain ⟨vs, _, h⟩ := h
    exact newL_fits l n vs fl h
  | .tup l, n, v, fl, h => by
    simp only [Sh.rel] at h
    obtain ⟨vs, _, h⟩ := h
    exact newL_fits l n vs fl h
  | .whole ex lo hi, n, v, fl, h => by
    simp only [Sh.rel] at h
    obtain ⟨m, f, rfl, _, _, h1, h2, rfl⟩ := h
    exact ⟨⟨m, rfl, fun a e => by cases e; exact h1, fun a e => by cases e; exact h2⟩, ⟨f, rfl⟩, trivial⟩
  | .deep lay, n, v, fl, h => by
    simp only [Sh.rel] at h
    obtain ⟨x, _, h1, rfl⟩ := h
    exact ⟨h1, trivial, trivial⟩
  | .row e u m cs, n, v, fl, h => by
    simp only [Sh.rel] at h
    obtain ⟨b, cap, vs, f, _, rfl, h2, rfl⟩ := h
    exact ⟨rfl, newL_fits cs (n + 1) vs f h2⟩
theorem newL_fits : ∀ (l : List Sh) (n : Nat) (vs fl : List Value), relL R l vs fl → fitsL (newL l n).1 fl
  | [], n, vs, fl, h => by
    simp only [relL] at h
    obtain ⟨_, rfl⟩ := h
    exact trivial
  | s :: r, n, vs, fl, h => by
    simp only [relL] at h
    obtain ⟨v, vs', f1, f2, rfl, rfl, h1, h2⟩ := h
    exact fitsL_append (newSh_fits s n v f1 h1) (newL_fits r _ vs' f2 h2)
end
mutual
theorem newSh_den {E : Env} : ∀ (s : Sh) (n : Nat) (v : Value) (fl : List Value), s.rel R v fl → Covers E n fl → RowsAt E n fl (rowsSh s n) → (newSh s n).2.1.den E = some v ∧ SV.denL E (newSh s n).2.2 = some fl
  | .sc t, n, v, fl, h, hc, _ => by
    simp only [Sh.rel] at h
    obtain ⟨h1, rfl⟩ := h
    have : (scOf t n).den E = some v := scOf_den h1 (hc 0 v rfl)
    exact ⟨this, denL_mk this (r := []) rfl⟩
  | .list e lay, n, v, fl, h, hc, _ => by
    simp only [Sh.rel] at h
    obtain ⟨cells, _, h1, rfl⟩ := h
    have h0 : (SV.sym n).den E = some v := by simp only [SV.den]; exact hc 0 v rfl
    have h1 : (SV.sym (n + 1)).den E = some (.agg cells) := by simp only [SV.den]; exact hc 1 _ rfl
    exact ⟨h0, denL_mk h0 (denL_mk h1 (r := []) rfl)⟩
  | .agg l, n, v, fl, h, hc, hra => by
    simp only [Sh.rel] at h
    obtain ⟨vs, rfl, h⟩ := h
    obtain ⟨h1, h2⟩ := newL_den l n vs fl h hc hra
    exact ⟨by simp only [newSh, SV.den, h1], h2⟩
  | .tup l, n, v, fl, h, hc, hra => by
    simp only [Sh.rel] at h
    obtain ⟨vs, rfl, h⟩ := h
    obtain ⟨h1, h2⟩ := newL_den l n vs fl h hc hra
    exact ⟨by simp only [newSh, SV.den, h1], h2⟩
  | .whole ex lo hi, n, v, fl, h, hc, _ => by
    simp only [Sh.rel] at h
    obtain ⟨m, f, rfl, _, _, _, _, rfl⟩ := h
    have h0 : (SV.sym n).den E = some (.int .i64 m) := by simp only [SV.den]; exact hc 0 _ rfl
    have h1 : (SV.sym (n + 1)).den E = some (.float .f64 f) := by simp only [SV.den]; exact hc 1 _ rfl
    exact ⟨h1, denL_mk h0 (denL_mk h1 (r := []) rfl)⟩
  | .deep lay, n, v, fl, h, hc, _ => by
    simp only [Sh.rel] at h
    obtain ⟨x, _, _, rfl⟩ := h
    have h0 : (SV.sym n).den E = some v := by simp only [SV.den]; exact hc 0 v rfl
    have h1 : (SV.sym (n + 1)).den E = some x := by simp only [SV.den]; exact hc 1 _ rfl
    exact ⟨h0, denL_mk h0 (denL_mk h1 (r := []) rfl)⟩
  | .row e u m cs, n, v, fl, h, hc, hra => by
    simp only [Sh.rel] at h
    obtain ⟨b, cap, vs, f, _, rfl, h2, rfl⟩ := h
    obtain ⟨hb, hcp⟩ := hra (n, _) (by simp only [rowsSh]; exact List.mem_cons_self) ⟨b, 0, none⟩ m cap (by simp) (Nat.le_refl _)
    obtain ⟨h3, h4⟩ := newL_den cs (n + 1) vs f h2 (hc.right (a := [_])) (fun r hr a l c h hle => hra r (by simp only [rowsSh]; exact List.mem_cons_of_mem _ hr) a l c (by
      rw [show r.1 - n = (r.1 - (n + 1)) + 1 by omega]; exact h) (by omega))
    have hv : (SV.slice n 0 m (.v n)).den E = some (.slice (some ⟨b, 0, none⟩) m cap) := by simp only [SV.den, hb, Cap.den, hcp]
    exact ⟨hv, denL_mk hv h4⟩
theorem newL_den {E : Env} : ∀ (l : List Sh) (n : Nat) (vs fl : List Value), relL R l vs fl → Covers E n fl → RowsAt E n fl (rowsL l n) → SV.denL E (newL l n).2.1 = some vs ∧ SV.denL E (newL l n).2.2 = some fl
  | [], n, vs, fl, h, hc, _ => by
    simp only [relL] at h
    obtain ⟨rfl, rfl⟩ := h
    exact ⟨rfl, rfl⟩
  | s :: r, n, vs, fl, h, hc, hra => by
    simp only [relL] at h
    obtain ⟨v, vs', f1, f2, rfl, rfl, h1, h2⟩ := h
    obtain ⟨k1, k2⟩ := newSh_den s n v f1 h1 hc.left (fun q hq a l c h hle => hra q (by simp only [rowsL]; exact List.mem_append_left _ hq) a l c (by
      rw [List.getElem?_append_left (List.getElem?_eq_some_iff.1 h).1]; exact h) hle)
    have hlen : (newSh s n).1.length = f1.length := fitsL_length (newSh_fits s n v f1 h1)
    obtain ⟨k3, k4⟩ := newL_den r (n + (newSh s n).1.length) vs' f2 h2 (by rw [hlen]; exact hc.right) (fun q hq a l c h hle => hra q (by simp only [rowsL]; exact List.mem_append_right _ hq) a l c (by
      rw [hlen] at h hle
      rw [List.getElem?_append_right (by omega), show q.1 - n - f1.length = q.1 - (n + f1.length) by omega]; exact h) (by omega))
    exact ⟨denL_mk k1 k3, denL_append k2 k4⟩
end
mutual
theorem listsSh_rel {E : Env} {own : Bool} : ∀ (s : Sh) (n : Nat) (v : Value) (fl : List Value), s.rel R v fl → Covers E n fl → ∀ l ∈ listsSh own s n, ∃ v cells, E.σ l.s = some v ∧ E.σ l.x = some (.agg cells) ∧ R.list l.e l.lay v cells ∧ l.own = own ∧ n ≤ l.s
  | .sc t, n, v, fl, h, hc, l, hl => by simp [listsSh] at hl
  | .list e lay, n, v, fl, h, hc, l, hl => by
    simp only [Sh.rel] at h
    obtain ⟨cells, h0, h1, rfl⟩ := h
    simp only [listsSh, List.mem_singleton] at hl; subst hl
    exact ⟨v, cells, hc 0 v rfl, hc 1 _ rfl, h0, rfl, Nat.le_refl _⟩
  | .agg l, n, v, fl, h, hc, x, hx => by
    simp only [Sh.rel] at h
    obtain ⟨vs, rfl, h⟩ := h
    exact listsL_rel l n vs fl h hc x hx
  | .tup l, n, v, fl, h, hc, x, hx => by
    simp only [Sh.rel] at h
    obtain ⟨vs, rfl, h⟩ := h
    exact listsL_rel l n vs fl h hc x hx
  | .whole _ _ _, n, v, fl, h, hc, l, hl => by simp [listsSh] at hl
  | .deep _, n, v, fl, h, hc, l, hl => by simp [listsSh] at hl
  | .row e u m cs, n, v, fl, h, hc, x, hx => by
    simp only [Sh.rel] at h
    obtain ⟨b, cap, vs, f, _, rfl, h2, rfl⟩ := h
    obtain ⟨u, cells, k1, k2, k3, k4, k5⟩ := listsL_rel cs (n + 1) vs f h2 (hc.right (a := [_])) x hx
    exact ⟨u, cells, k1, k2, k3, k4, by omega⟩
theorem listsL_rel {E : Env} {own : Bool} : ∀ (l : List Sh) (n : Nat) (vs fl : List Value), relL R l vs fl → Covers E n fl → ∀ x ∈ listsL own l n, ∃ v cells, E.σ x.s = some v ∧ E.σ x.x = some (.agg cells) ∧ R.list x.e x.lay v cells ∧ x.own = own ∧ n ≤ x.s
  | [], n, vs, fl, h, hc, x, hx => by simp [listsL] at hx
  | s :: r, n, vs, fl, h, hc, x, hx => by
    simp only [relL] at h
    obtain ⟨v, vs', f1, f2, rfl, rfl, h1, h2⟩ := h
    simp only [listsL, List.mem_append] at hx
    rcases hx with hx | hx
    · exact listsSh_rel s n v f1 h1 hc.left x hx
    · have hlen : (newSh s n).1.length = f1.length := fitsL_length (newSh_fits s n v f1 h1)
      obtain ⟨u, cells, k1, k2, k3, k4, k5⟩ := listsL_rel r (n + (newSh s n).1.length) vs' f2 h2 (by rw [hlen]; exact hc.right) x hx
      exact ⟨u, cells, k1, k2, k3, k4, by omega⟩
end
end
section
variable {R : ListR} {E : Env} {w0 : Start}
mutual
theorem factsSh_ok : ∀ (s : Sh) (n : Nat) (v : Value) (fl : List Value), s.rel R v fl → Covers E n fl → ∀ q ∈ factsSh s n, ∃ vs u, SV.denL E q.args = some vs ∧ q.res.den E = some u ∧ q.op.rel w0 vs u
  | .whole ex lo hi, n, v, fl, h, hc, q, hq => by
    simp only [Sh.rel] at h
    obtain ⟨m, f, rfl, h1, h2, _, _, rfl⟩ := h
    simp only [factsSh, List.mem_singleton] at hq; subst hq
    have k0 : (SV.sym n).den E = some (.int .i64 m) := by simp only [SV.den]; exact hc 0 _ rfl
    have k1 : (SV.sym (n + 1)).den E = some (.float .f64 f) := by simp only [SV.den]; exact hc 1 _ rfl
    refine ⟨[.int .i64 m], .float .f64 f, denL_mk k0 (r := []) rfl, k1, ?_⟩
    cases ex with
    | true => show sopFun (.i2f .f64) _ = _; simp only [sopFun, h2 rfl]
    | false => exact ⟨f, rfl, h1⟩
  | .agg l, n, v, fl, h, hc, q, hq => by
    simp only [Sh.rel] at h
    obtain ⟨vs, rfl, h⟩ := h
    exact factsL_ok l n vs fl h hc q hq
  | .tup l, n, v, fl, h, hc, q, hq => by
    simp only [Sh.rel] at h
    obtain ⟨vs, rfl, h⟩ := h
    exact factsL_ok l n vs fl h hc q hq
  | .sc _, _, _, _, _, _, q, hq => by simp [factsSh] at hq
  | .list _ _, _, _, _, _, _, q, hq => by simp [factsSh] at hq
  | .deep _, _, _, _, _, _, q, hq => by simp [factsSh] at hq
  | .row e u m cs, n, v, fl, h, hc, q, hq => by
    simp only [Sh.rel] at h
    obtain ⟨b, cap, vs, f, _, rfl, h2, rfl⟩ := h
    exact factsL_ok cs (n + 1) vs f h2 (hc.right (a := [_])) q hq
theorem factsL_ok : ∀ (l : List Sh) (n : Nat) (vs fl : List Value), relL R l vs fl → Covers E n fl → ∀ q ∈ factsL l n, ∃ vs u, SV.denL E q.args = some vs ∧ q.res.den E = some u ∧ q.op.rel w0 vs u
  | [], n, vs, fl, h, hc, q, hq => by simp [factsL] at hq
  | s :: r, n, vs, fl, h, hc, q, hq => by
    simp only [relL] at h
    obtain ⟨v, vs', f1, f2, rfl, rfl, h1, h2⟩ := h
    simp only [factsL, List.mem_append] at hq
    rcases hq with hq | hq
    · exact factsSh_ok s n v f1 h1 hc.left q hq
    · have hlen : (newSh s n).1.length = f1.length := fitsL_length (newSh_fits s n v f1 h1)
      exact factsL_ok r (n + (newSh s n).1.length) vs' f2 h2 (by rw [hlen]; exact hc.right) q hq
end
mutual
theorem deepsSh_ok : ∀ (s : Sh) (n : Nat) (v : Value) (fl : List Value), s.rel R v fl → Covers E n fl → ∀ p ∈ deepsSh s n, ∃ v x, E.σ p.1 = some v ∧ E.σ (p.1 + 1) = some x ∧ R.deep p.2 v x
  | .deep lay, n, v, fl, h, hc, q, hq => by
    simp only [Sh.rel] at h
    obtain ⟨x, h1, _, rfl⟩ := h
    simp only [deepsSh, List.mem_singleton] at hq; subst hq
    exact ⟨v, x, hc 0 v rfl, hc 1 _ rfl, h1⟩
  | .agg l, n, v, fl, h, hc, q, hq => by
    simp only [Sh.rel] at h
    obtain ⟨vs, rfl, h⟩ := h
    exact deepsL_ok l n vs fl h hc q hq
  | .tup l, n, v, fl, h, hc, q, hq => by
    simp only [Sh.rel] at h
    obtain ⟨vs, rfl, h⟩ := h
    exact deepsL_ok l n vs fl h hc q hq
  | .sc _, _, _, _, _, _, q, hq => by simp [deepsSh] at hq
  | .list _ _, _, _, _, _, _, q, hq => by simp [deepsSh] at hq
  | .whole _ _ _, _, _, _, _, _, q, hq => by simp [deepsSh] at hq
  | .row e u m cs, n, v, fl, h, hc, q, hq => by
    simp only [Sh.rel] at h
    obtain ⟨b, cap, vs, f, _, rfl, h2, rfl⟩ := h
    exact deepsL_ok cs (n + 1) vs f h2 (hc.right (a := [_])) q hq
theorem deepsL_ok : ∀ (l : List Sh) (n : Nat) (vs fl : List Value), relL R l vs fl → Covers E n fl → ∀ p ∈ deepsL l n, ∃ v x, E.σ p.1 = some v ∧ E.σ (p.1 + 1) = some x ∧ R.deep p.2 v x
  | [], n, vs, fl, h, hc, q, hq => by simp [deepsL] at hq
  | s :: r, n, vs, fl, h, hc, q, hq => by
    simp only [relL] at h
    obtain ⟨v, vs', f1, f2, rfl, rfl, h1, h2⟩ := h
    simp only [deepsL, List.mem_append] at hq
    rcases hq with hq | hq
    · exact deepsSh_ok s n v f1 h1 hc.left q hq
    · have hlen : (newSh s n).1.length = f1.length := fitsL_length (newSh_fits s n v f1 h1)
      exact deepsL_ok r (n + (newSh s n).1.length) vs' f2 h2 (by rw [hlen]; exact hc.right) q hq
end
end
theorem rowsAt_nil {E : Env} {n : Nat} {fl : List Value} {rs : List (Nat × SObj)} (h : rs = []) : RowsAt E n fl rs := fun r hr => by rw [h] at hr; cases hr
mutual
theorem noRow_ok : ∀ (s : Sh) (n : Nat), s.noRow = true → rowsSh s n = []
  | .row _ _ _ _, _, h => by simp [Sh.noRow] at h
  | .agg l, n, h => by simp only [Sh.noRow] at h; simp only [rowsSh]; exact noRowL_ok l n h
  | .tup l, n, h => by simp only [Sh.noRow] at h; simp only [rowsSh]; exact noRowL_ok l n h
  | .sc _, _, _ => by simp only [rowsSh]
  | .list _ _, _, _ => by simp only [rowsSh]
  | .whole _ _ _, _, _ => by simp only [rowsSh]
  | .deep _, _, _ => by simp only [rowsSh]
theorem noRowL_ok : ∀ (l : List Sh) (n : Nat), noRowL l = true → rowsL l n = []
  | [], _, _ => by simp only [rowsL]
  | s :: r, n, h => by
    simp only [noRowL, Bool.and_eq_true] at h
    simp only [rowsL, noRow_ok s n h.1, noRowL_ok r _ h.2, List.append_nil]
end
section
variable {w : World}
mutual
theorem rowsSh_ok {E : Env} : ∀ (s : Sh) (n : Nat) (v : Value) (fl : List Value), s.rel (inR w) v fl → Covers E n fl → RowsAt E n fl (rowsSh s n) →
    ∀ r ∈ rowsSh s n, n ≤ r.1 ∧ r.1 < n + fl.length ∧ ∃ b x, E.ρ r.1 = some b ∧ w.heap[b]? = some x ∧ ORel E r.2 x
  | .row e u m cs, n, v, fl, h, hc, hra, r, hr => by
    simp only [Sh.rel] at h
    obtain ⟨b, cap, vs, f, ⟨rest, fz, h1, hcl⟩, rfl, h2, rfl⟩ := h
    have hra' : RowsAt E (n + 1) f (rowsL cs (n + 1)) := fun r hr a l c h hle => hra r (by simp only [rowsSh]; exact List.mem_cons_of_mem _ hr) a l c (by
      rw [show r.1 - n = (r.1 - (n + 1)) + 1 by omega]; exact h) (by omega)
    simp only [rowsSh, List.mem_cons] at hr
    rcases hr with rfl | hr
    · obtain ⟨hb, hcp⟩ := hra (n, _) (by simp only [rowsSh]; exact List.mem_cons_self) ⟨b, 0, none⟩ m cap (by simp) (Nat.le_refl _)
      obtain ⟨h3, h4⟩ := newL_den cs (n + 1) vs f h2 (hc.right (a := [_])) hra'
      exact ⟨Nat.le_refl _, by simp, b, _, hb, h1, vs, rest, cap, fz, h3, hcp, hcl, rfl, fun h => by cases h⟩
    · obtain ⟨k1, k2, k3⟩ := rowsL_ok cs (n + 1) vs f h2 (hc.right (a := [_])) hra' r hr
      exact ⟨by omega, by simp only [List.length_cons]; omega, k3⟩
  | .agg l, n, v, fl, h, hc, hra, r, hr => by
    simp only [Sh.rel] at h
    obtain ⟨vs, rfl, h⟩ := h
    exact rowsL_ok l n vs fl h hc hra r hr
  | .tup l, n, v, fl, h, hc, hra, r, hr => by
    simp only [Sh.rel] at h
    obtain ⟨vs, rfl, h⟩ := h
    exact rowsL_ok l n vs fl h hc hra r hr
  | .sc _, _, _, _, _, _, _, r, hr => by simp [rowsSh] at hr
  | .list _ _, _, _, _, _, _, _, r, hr => by simp [rowsSh] at hr
  | .whole _ _ _, _, _, _, _, _, _, r, hr => by simp [rowsSh] at hr
  | .deep _, _, _, _, _, _, _, r, hr => by simp [rowsSh] at hr
theorem rowsL_ok {E : Env} : ∀ (l : List Sh) (n : Nat) (vs fl : List Value), relL (inR w) l vs fl → Covers E n fl → RowsAt E n fl (rowsL l n) →
    ∀ r ∈ rowsL l n, n ≤ r.1 ∧ r.1 < n + fl.length ∧ ∃ b x, E.ρ r.1 = some b ∧ w.heap[b]? = some x ∧ ORel E r.2 x
  | [], _, _, _, _, _, _, r, hr => by simp [rowsL] at hr
  | s :: t, n, vs, fl, h, hc, hra, r, hr => by
    simp only [relL] at h
    obtain ⟨v, vs', f1, f2, rfl, rfl, h1, h2⟩ := h
    have hlen : (newSh s n).1.length = f1.length := fitsL_length (newSh_fits s n v f1 h1)
    simp only [rowsL, List.mem_append] at hr
    rcases hr with hr | hr
    · obtain ⟨k1, k2, k3⟩ := rowsSh_ok s n v f1 h1 hc.left (fun q hq a l c h hle => hra q (by simp only [rowsL]; exact List.mem_append_left _ hq) a l c (by
        rw [List.getElem?_append_left (List.getElem?_eq_some_iff.1 h).1]; exact h) hle) r hr
      exact ⟨k1, by simp only [List.length_append]; omega, k3⟩
    · rw [hlen] at hr
      obtain ⟨k1, k2, k3⟩ := rowsL_ok t (n + f1.length) vs' f2 h2 hc.right (fun q hq a l c h hle => hra q (by simp only [rowsL]; rw [hlen]; exact List.mem_append_right _ hq) a l c (by
        rw [List.getElem?_append_right (by omega), show q.1 - n - f1.length = q.1 - (n + f1.length) by omega]; exact h) (by omega)) r hr
      exact ⟨by omega, by simp only [List.length_append]; omega, k3⟩
end
end
def Env.rows (E : Env) (fl : List Value) (rs : List (Nat × SObj)) : Env :=
  { ρ := fun i => (match find i rs with
    | some _ => (match fl[i]? with
      | some (.slice (some a) _ _) => some a.block
      | _ => none)
    | none => E.ρ i)
    σ := E.σ
    κ := fun i => (match find i rs with
    | some _ => (match fl[i]? with
      | some (.slice (some _) _ c) => some c
      | _ => none)
    | none => E.κ i) }
theorem find_of_mem {α : Type} {i : Nat} {x : α} : ∀ {l : List (Nat × α)}, (i, x) ∈ l → ∃ y, find i l = some y
  | (j, y) :: r, h => by
    simp only [find]
    cases e : Nat.beq i j with
    | true => exact ⟨y, rfl⟩
    | false =>
      simp only [List.mem_cons, Prod.mk.injEq] at h
      rcases h with ⟨rfl, _⟩ | h
      · simp at e
      · exact find_of_mem h
theorem rows_at (E : Env) (fl : List Value) (rs : List (Nat × SObj)) : RowsAt (E.rows fl rs) 0 fl rs := fun r hr a l c h _ => by
  obtain ⟨y, hy⟩ := find_of_mem (i := r.1) (x := r.2) hr
  simp only [Env.rows, hy]
  simp only [Nat.sub_zero] at h
  rw [h]
  exact ⟨rfl, rfl⟩
theorem unks_covers (E : Env) (N : Nat) (fl : List Value) : Covers (E.unks N fl) N fl := fun j v hj => by
  rw [unks_new E fl (by omega), show N + j - N = j by omega]; exact hj
section
variable {B G : Nat} {w0 : Start} {E : Env} {S : St} {w w' : World} {P : Program}
theorem Rel.newSyms (h : Rel B G w0 E S w) {srts : List Sort_} {fl : List Value} (hf : fitsL srts fl) : E.le (E.unks S.nsym fl) ∧ Rel B G w0 (E.unks S.nsym fl) (newSt S srts []) w := by
  have hle := unks_le E fl h.newσ
  have hlen := fitsL_length hf
  refine ⟨hle, ?_⟩
  exact
  { h with
    heap := fun id o hi => by obtain ⟨b, x, h1, h2, h3⟩ := h.heap id o hi; exact ⟨b, x, h1, h2, h3.mono hle⟩
    newσ := fun i hi => by
      have hi : S.nsym + srts.length ≤ i := hi
      rw [unks_new E fl (by omega), List.getElem?_eq_none (by omega)]
    sorts := fun i t hi => by
      simp only [newSt] at hi
      rw [enumS_find] at hi
      split at hi
      · rename_i hb
        obtain ⟨v, h1, h2⟩ := fitsL_get hf hi
        exact ⟨v, by rw [unks_new E fl hb.1]; exact h1, h2⟩
      · obtain ⟨v, h1, h2⟩ := h.sorts i t hi
        exact ⟨v, hle.σ _ _ h1, h2⟩
    pc := fun i b hi => hle.σ _ _ (h.pc i b hi)
    pins := fun p hp => hle.σ _ _ (h.pins p hp)
    ro := fun i xs hi => by obtain ⟨a, cap, h1, h2⟩ := h.ro i xs hi; exact ⟨a, cap, hle.σ _ _ h1, h2⟩
    ra := fun i u hi => by obtain ⟨a, h1, h2⟩ := h.ra i u hi; exact ⟨a, hle.σ _ _ h1, h2⟩
    deeps := fun d hd => by obtain ⟨v, x, h1, h2, h3⟩ := h.deeps d hd; exact ⟨v, x, hle.σ _ _ h1, hle.σ _ _ h2, h3⟩
    facts := fun q hq => by obtain ⟨vs, v, h1, h2, h3⟩ := h.facts q hq; exact ⟨vs, v, SV.denL_mono hle _ _ h1, SV.den_mono hle _ _ h2, h3⟩
    lists := fun l hl => h.listsKeep hle (fun _ _ _ _ _ _ _ _ => rfl) l (by simpa [newSt] using hl)
    apart := fun l hl ho v hv c hc => by
      have hl : l ∈ S.lists := by simpa [newSt] using hl
      obtain ⟨h1, h2⟩ := h.apart l hl ho v (h.listAt hl hle hv) c hc
      exact ⟨h1, fun m hm hmo u hu => h2 m (by simpa [newSt] using hm) hmo u (h.listAt (by simpa [newSt] using hm) hle hu)⟩ }
theorem Rel.addFacts (h : Rel B G w0 E S w) {fs : List Fact_} (hf : ∀ q ∈ fs, ∃ vs u, SV.denL E q.args = some vs ∧ q.res.den E = some u ∧ q.op.rel w0 vs u) : Rel B G w0 E { S with facts := fs ++ S.facts } w :=
  { h with
    facts := fun q hq => by
      simp only [List.mem_append] at hq
      rcases hq with hq | hq
      · exact hf q hq
      · exact h.facts q hq }
theorem Rel.addDeeps : ∀ (l : List (Nat × List Lay)) (S : St), Rel B G w0 E S w → (∀ p ∈ l, ∃ v x, E.σ p.1 = some v ∧ E.σ (p.1 + 1) = some x ∧ Deep B w0.w (.list p.2) v x) → Rel B G w0 E (Ev.addDeeps l S) w
  | [], S, h, _ => h
  | p :: r, S, h, hl => by
    obtain ⟨v, x, h1, h2, h3⟩ := hl p List.mem_cons_self
    exact Rel.addDeeps r _ (h.addDeep h1 h2 h3) fun q hq => hl q (List.mem_cons_of_mem _ hq)
theorem ListOut.lrel {e : TypeId} {lay : List Sort_} {v : Value} {cells : Array Value} {D : Nat} (h : ListOut D w e lay v cells) (hB : B ≤ D) {l : LEnt} (hs : E.σ l.s = some v) (hx : E.σ l.x = some (.agg cells)) (he : l.e = e) (hl : l.lay = lay) (ho : l.own = true) : LRel B w0 E w l v cells := by
  subst he hl
  refine { s := hs, x := hx, some_ := h.some_, few := h.few, whole := h.whole, lay := h.fit, own := fun _ => ?_, old := fun h => by rw [ho] at h; cases h }
  refine ⟨h.own.1, ?_⟩
  rcases h.own.2 with hn | ⟨g, cap, cur, h1, h2, rest⟩
  · exact .inl hn
  · exact .inr ⟨g, cap, cur, h1, by omega, rest⟩
theorem ListOut.block {e : TypeId} {lay : List Sort_} {v : Value} {cells : Array Value} {D : Nat} (h : ListOut D w e lay v cells) {b : Nat} (hb : v.ownBlock = some b) : D ≤ b := (h.own.lt b hb).1
end
end Go.Ev
namespace Go.Ev
open Go.RowKit (Below)
section
variable {B G : Nat} {w0 : Start} {E : Env} {S : St} {w w' : World} {P : Program}
theorem fitsS2_ok (hr : ERel E S) {x : SV} {t : Sort_} {v : Value} (h : fitsS2 S x t = true) (hx : x.den E = some v) : t.fits v := by
  cases t with
  | intIn k lo hi =>
    simp only [fitsS2] at h
    split at h
    · rename_i k' lx ux hi'
      simp only [Bool.and_eq_true, decide_eq_true_eq] at h
      obtain ⟨rfl, h1, h2⟩ := h
      obtain ⟨n, rfl, e1, e2⟩ := intOf_ok hr hi' hx
      refine ⟨n, rfl, fun a ha => ?_, fun a ha => ?_⟩
      · subst ha
        obtain ⟨p, q, k1, k2, k3⟩ := leO_ok h1
        cases k1
        have := e1 q k2
        omega
      · subst ha
        obtain ⟨p, q, k1, k2, k3⟩ := leO_ok h2
        cases k2
        have := e2 p k1
        omega
    · cases h
  | is u =>
    simp only [fitsS2] at h
    have := alike_eq h
    subst this
    simp only [SV.den, Option.some.injEq] at hx
    exact hx.symm
  | _ => exact fitsS_ok hr (by simpa only [fitsS2] using h) hx
theorem sameSos_ne {a b : List Sort_} (h : sameSos a b = true) : a = b := sameSos_eq h
theorem list_in (hr : Rel B G w0 E S w) {l : LEnt} {v : Value} {cells : Array Value} (hL : LRel B w0 E w l v cells) : ListIn w l.lay v cells ∧ v.oneCell' = true := by
  cases ho : l.own with
  | true =>
    have hown := hL.own ho
    refine ⟨{ some_ := hL.some_, few := hL.few, whole := hL.whole, fit := hL.lay, at_ := ?_ }, ownsRow_one hown⟩
    rcases hown.2 with ⟨rfl, hn⟩ | ⟨g, cap, cur, hv, h1, h2, h3⟩
    · refine .inl ⟨rfl, ?_⟩
      have := hL.whole
      rw [hn, Nat.zero_mul] at this
      exact Array.eq_empty_of_size_eq_zero this
    · refine .inr ⟨⟨g, 0, none⟩, cap, hv, (Array.getElem?_eq_some_iff.1 h2).1, fun j c hc => ?_⟩
      exact hown.cells (g := g) (by rw [hv]; rfl) j c (by simpa using hc)
  | false =>
    have hbase : B ≤ w.heap.size := hr.base
    rcases hL.old ho with ⟨rfl, rfl⟩ | ⟨a, cap, hv, hb, hc⟩
    · exact ⟨{ some_ := hL.some_, few := hL.few, whole := hL.whole, fit := hL.lay, at_ := .inl ⟨rfl, rfl⟩ }, rfl⟩
    · refine ⟨{ some_ := hL.some_, few := hL.few, whole := hL.whole, fit := hL.lay, at_ := .inr ⟨a, cap, hv, by omega, fun j c hj => ?_⟩ }, by rw [hv]; rfl⟩
      rw [← hc j c hj]
      refine World.cell?_of_block (hr.below.block _ ?_)
      rw [addr_add_block]; exact hb
theorem deepCells_ok (hr : Rel B G w0 E S w) {f : List Lay → SV → Option SV} (hf : ∀ (lay : List Lay) (x y : SV) (v : Value), f lay x = some y → x.den E = some v → ∃ u, y.den E = some u ∧ Deep w.heap.size w (.list lay) v u) {lay : List Lay} :
    ∀ (cs : List SV) (j : Nat) (l : List SV) (vs : List Value), deepCells S f lay j cs = some l → SV.denL E cs = some vs → ∃ us, SV.denL E l = some us ∧ us.length = vs.length ∧
      ∀ (i : Nat) (t : Lay) (c x : Value), lay[(j + i) % lay.length]? = some t → vs[i]? = some c → us[i]? = some x → Deep w.heap.size w t c x
  | [], j, l, vs, h, hv => by
    simp only [deepCells, Option.some.injEq] at h; subst h
    simp only [SV.denL, Option.some.injEq] at hv; subst hv
    exact ⟨[], rfl, rfl, fun i t c x _ h => by simp at h⟩
  | c :: r, j, l, vs, h, hv => by
    obtain ⟨v, vr, h1, h2, rfl⟩ := denL_cons hv
    simp only [deepCells] at h
    split at h
    case h_2 => cases h
    rename_i y l' hy hl
    simp only [Option.some.injEq] at h; subst h
    obtain ⟨us, k1, k2, k3⟩ := deepCells_ok hr hf r (j + 1) l' vr hl h2
    have one : ∃ u, y.den E = some u ∧ ∀ t, lay[j % lay.length]? = some t → Deep w.heap.size w t v u := by
      split at hy
      · rename_i t ht
        cases hs : fitsS2 S c t with
        | false => rw [hs] at hy; cases hy
        | true =>
          rw [hs] at hy
          simp only [cond_true, Option.some.injEq] at hy; subst hy
          exact ⟨v, h1, fun t' e => by rw [ht] at e; cases e; exact .sc (fitsS2_ok hr.env hs h1)⟩
      · rename_i lay' ht
        obtain ⟨u, g1, g2⟩ := hf lay' c y v hy h1
        exact ⟨u, g1, fun t' e => by rw [ht] at e; cases e; exact g2⟩
      · cases hy
    obtain ⟨u, g1, g2⟩ := one
    refine ⟨u :: us, denL_mk g1 k1, by simp [k2], fun i t c' x ht hc hx => ?_⟩
    cases i with
    | zero =>
      simp at hc hx; subst hc hx
      exact g2 t (by simpa using ht)
    | succ i =>
      exact k3 i t c' x (by rw [show j + 1 + i = j + (i + 1) by omega]; exact ht) (by simpa using hc) (by simpa using hx)
theorem deepS_ok (hr : Rel B G w0 E S w) : ∀ (d : Nat) (lay : List Lay) (x y : SV) (v : Value), deepS S d lay x = some y → x.den E = some v → ∃ u, y.den E = some u ∧ Deep w.heap.size w (.list lay) v u
  | 0, _, _, _, _, h, _ => by cases h
  | d + 1, lay, x, y, v, h, hx => by
    simp only [deepS] at h
    split at h
    · rename_i n
      simp only [SV.den] at hx
      split at h
      · rename_i e he
        cases hs : sameLays e.lay lay with
        | false => rw [hs] at h; cases h
        | true =>
          rw [hs] at h
          simp only [cond_true, Option.some.injEq] at h; subst h
          have := sameLays_eq _ _ hs; subst this
          obtain ⟨hm, rfl⟩ := deepAt_mem he
          obtain ⟨v', u, h1, h2, h3⟩ := hr.deeps e hm
          rw [h1] at hx; cases hx
          exact ⟨u, by simp only [SV.den]; exact h2, h3.mono hr.base hr.below.block⟩
      · split at h
        · rename_i l srts hl hal
          cases hs : sameSos l.lay srts with
          | false => rw [hs] at h; cases h
          | true =>
            rw [hs] at h
            simp only [cond_true, Option.some.injEq] at h; subst h
            have := sameSos_eq hs; subst this
            obtain ⟨a1, a2⟩ := allSc_get hal
            obtain ⟨hm, rfl⟩ := listAt_mem hl
            obtain ⟨v', cells, hL⟩ := hr.lists l hm
            rw [hL.s] at hx; cases hx
            obtain ⟨hin, _⟩ := list_in hr hL
            refine ⟨.agg cells, by simp only [SV.den]; exact hL.x, ?_⟩
            have hpos : 0 < lay.length := by have := hin.some_; omega
            rcases hin.at_ with ⟨rfl, rfl⟩ | ⟨a, cap, rfl, hb, hc⟩
            · exact .nil hpos
            · rw [a1]
              refine .list (raw := cells) hpos (by rw [← a1]; exact hin.few) (by rw [← a1]; exact hin.whole) rfl hb hc fun j t c x ht hj hj' => ?_
              rw [hj] at hj'; cases hj'
              obtain ⟨srt, e1, e2⟩ := a2 _ _ ht
              obtain ⟨t', e3, e4⟩ := hin.fit j c hj
              rw [a1, e2] at e3; cases e3
              subst e1
              exact .sc e4
        · cases h
    · rename_i id off len cp
      split at h
      case h_2 => cases h
      rename_i cells e wr ext hf
      cases hc : Nat.ble (off + len * lay.length) cells.length && (Nat.blt 0 lay.length && Nat.ble len 140737488355328) with
      | false => rw [hc] at h; cases h
      | true =>
      rw [hc] at h
      simp only [Bool.and_eq_true] at hc
      simp only [cond_true] at h
      have c1 := Nat.le_of_ble_eq_true hc.1
      have c2 : 0 < lay.length := Nat.le_of_ble_eq_true hc.2.1
      have c3 := Nat.le_of_ble_eq_true hc.2.2
      split at h
      case h_2 => cases h
      rename_i l hl
      simp only [Option.some.injEq] at h; subst h
      obtain ⟨b, o, e1, e2, e3⟩ := hr.heap id _ hf
      simp only [SV.den, e1] at hx
      split at hx
      case h_2 => cases hx
      rename_i b' n hb' hn
      cases hb'
      simp only [Option.some.injEq] at hx; subst hx
      have hrow : ∃ (lv : List Value) (all : Array Value) (fz : Nat × Nat), SV.denL E cells = some lv ∧ o = .cells all e fz ∧ ∀ (i : Nat) (c : Value), lv[i]? = some c → all[i]? = some c := by
        cases ext with
        | none =>
          obtain ⟨lv, fz, k1, k2, _⟩ := e3
          exact ⟨lv, _, fz, k1, k2, fun i c h => by simpa using h⟩
        | some p =>
          obtain ⟨lv, r, n', fz, k1, _, _, k2, _⟩ := e3
          exact ⟨lv, _, fz, k1, k2, fun i c h => by
            have hi := (List.getElem?_eq_some_iff.1 h).1
            rw [List.getElem?_toArray, List.getElem?_append_left hi]; exact h⟩
      obtain ⟨lv, all, fz, k1, rfl, k3⟩ := hrow
      have hlen := denL_length k1
      have hsub := denL_take (len * lay.length) (denL_drop off k1)
      obtain ⟨us, g1, g2, g3⟩ := deepCells_ok hr (fun lay x y v => deepS_ok hr d lay x y v) _ 0 l _ hl hsub
      have hus : us.length = len * lay.length := by rw [g2]; simp; omega
      refine ⟨.agg us.toArray, by simp only [SV.den, g1], ?_⟩
      have hdiv : us.toArray.size / lay.length = len := by simp only [List.size_toArray, hus]; exact Nat.mul_div_cancel _ c2
      have := Deep.list (B := w.heap.size) (w := w) (lay := lay) (a := ⟨b, off, none⟩) (cap := n) (raw := ((lv.drop off).take (len * lay.length)).toArray) (cells := us.toArray) c2 (by rw [hdiv]; exact c3) (by rw [hdiv]; simp [hus]) (by simp [hus]; omega)
        (Array.getElem?_eq_some_iff.1 e2).1 (fun j c hj => by
          rw [List.getElem?_toArray, List.getElem?_take] at hj
          split at hj
          · rw [List.getElem?_drop] at hj
            rw [add_at, cell_at e2]
            exact k3 _ _ hj
          · cases hj)
        (fun j t c x ht hc hx => g3 j t c x (by simpa using ht) (by simpa using hc) (by simpa using hx))
      rw [hdiv] at this
      exact this
    · cases hs : isNilS x && Nat.blt 0 lay.length with
      | false => rw [hs] at h; cases h
      | true =>
        rw [hs] at h
        simp only [cond_true, Option.some.injEq] at h; subst h
        simp only [Bool.and_eq_true] at hs
        have := isNilS_eq hs.1
        subst this
        simp only [SV.den, Option.some.injEq] at hx; subst hx
        exact ⟨.agg #[], by simp only [SV.den], .nil (Nat.le_of_ble_eq_true hs.2)⟩
mutual
theorem matchSh_ok (hr : Rel B G w0 E S w) : ∀ (s : Sh) (x : SV) (r : List SV × Bool) (v : Value), matchSh S s x = some r → x.den E = some v → ∃ fl, SV.denL E r.1 = some fl ∧ (maskSh s).length = fl.length ∧ (∀ n, (newSh s n).1.length = fl.length) ∧
    ∀ n, (r.2 = true ∨ bdsM (maskSh s) (newSh s n).1 fl) → s.rel (inR w) v fl
  | .sc t, x, r, v, h, hx => by
    simp only [matchSh] at h
    cases hf : fitsS2 S x t with
    | true =>
      rw [hf] at h
      simp only [cond_true, Option.some.injEq] at h; subst h
      exact ⟨[v], denL_mk hx (r := []) rfl, rfl, fun _ => rfl, fun _ _ => by simp only [Sh.rel]; exact ⟨fitsS2_ok hr.env hf hx, trivial⟩⟩
    | false =>
      rw [hf] at h
      simp only [cond_false] at h
      split at h
      case h_2 => cases h
      rename_i k lo hi
      cases hl : looseInt S x k lo hi with
      | false => rw [hl] at h; cases h
      | true =>
        rw [hl] at h
        simp only [cond_true, Option.some.injEq] at h; subst h
        unfold looseInt at hl
        split at hl
        case h_2 => cases hl
        rename_i k' lx ux hio
        simp only [Bool.and_eq_true, decide_eq_true_eq] at hl
        obtain ⟨rfl, _⟩ := hl
        obtain ⟨n, rfl, _, _⟩ := intOf_ok hr.env hio hx
        refine ⟨[.int k' n], denL_mk hx (r := []) rfl, rfl, fun _ => rfl, fun _ hb => ?_⟩
        rcases hb with hb | hb
        · cases hb
        · simp only [maskSh, newSh, bdsM, bd1, iv] at hb
          simp only [Sh.rel]
          exact ⟨⟨n, rfl, hb.1.1, hb.1.2⟩, trivial⟩
  | .list e lay, x, flat, v, h, hx => by
    simp only [matchSh] at h
    split at h
    · rename_i n
      split at h
      · rename_i l hl
        cases hs : sameSos l.lay lay with
        | false => rw [hs] at h; cases h
        | true =>
          rw [hs] at h
          simp only [cond_true, Option.some.injEq] at h; subst h
          have hs := sameSos_eq hs
          subst hs
          obtain ⟨hm, rfl⟩ := listAt_mem hl
          obtain ⟨u, cells, hL⟩ := hr.lists l hm
          have hv : u = v := by simp only [SV.den] at hx; rw [hL.s] at hx; exact Option.some.inj hx
          subst hv
          obtain ⟨k1, k2⟩ := list_in hr hL
          exact ⟨[u, .agg cells], denL_mk hx (denL_mk (x := .sym l.x) (by simp only [SV.den]; exact hL.x) (r := []) rfl), rfl, fun _ => rfl, fun _ _ => by simp only [Sh.rel]; exact ⟨cells, k1, k2, rfl⟩⟩
      · cases h
    · rename_i x' _
      cases hs : isNilS x && Nat.blt 0 lay.length with
      | false => rw [hs] at h; cases h
      | true =>
        rw [hs] at h
        simp only [cond_true, Option.some.injEq] at h; subst h
        simp only [Bool.and_eq_true] at hs
        have h1 := isNilS_eq hs.1
        have h2 : 0 < lay.length := Nat.le_of_ble_eq_true hs.2
        subst h1
        simp only [SV.den, Option.some.injEq] at hx; subst hx
        exact ⟨[.slice none 0 0, .agg #[]], denL_mk (x := .val (.slice none 0 0)) (by simp only [SV.den]) (denL_mk (x := .val (.agg #[])) (v := .agg #[]) (by simp only [SV.den]) (r := []) rfl), rfl, fun _ => rfl, fun _ _ => by
          simp only [Sh.rel]
          exact ⟨#[], { some_ := h2, few := by simp, whole := by simp, fit := fun j c hj => by simp at hj, at_ := .inl ⟨rfl, rfl⟩ }, rfl, rfl⟩⟩
  | .agg l, x, flat, v, h, hx => by
    simp only [matchSh] at h
    split at h
    · rename_i xs hxs
      obtain ⟨vs, h1, rfl⟩ := aggOf_den hxs hx
      obtain ⟨fl, h2, h4, h5, h3⟩ := matchL_ok hr l xs flat vs h h1
      exact ⟨fl, h2, h4, h5, fun n hb => by simp only [Sh.rel]; exact ⟨vs, rfl, h3 n hb⟩⟩
    · cases h
  | .tup l, x, flat, v, h, hx => by
    simp only [matchSh] at h
    split at h
    · rename_i xs hxs
      obtain ⟨vs, h1, rfl⟩ := tupOf_den hxs hx
      obtain ⟨fl, h2, h4, h5, h3⟩ := matchL_ok hr l xs flat vs h h1
      exact ⟨fl, h2, h4, h5, fun n hb => by simp only [Sh.rel]; exact ⟨vs, rfl, h3 n hb⟩⟩
    · cases h
  | .whole ex lo hi, x, flat, v, h, hx => by
    simp only [matchSh] at h
    split at h
    case h_2 => cases h
    rename_i p hp
    obtain ⟨m, f, ka⟩ := wholeOf_ok hr hp hx
    cases hc : (!ex || (p.ex || (decide (0 < p.lo) || decide (p.hi < 0)))) && (decide (lo ≤ p.hi) && decide (p.lo ≤ hi)) with
    | false => rw [hc] at h; cases h
    | true =>
      rw [hc] at h
      simp only [cond_true, Option.some.injEq] at h; subst h
      simp only [Bool.and_eq_true, decide_eq_true_eq, Bool.or_eq_true, Bool.not_eq_true'] at hc
      obtain ⟨c3, _⟩ := hc
      have b1 := ka.lo; have b2 := ka.hi
      have e1 := ka.v
      subst e1
      refine ⟨[.int .i64 m, .float .f64 f], denL_mk ka.n (denL_mk hx (r := []) rfl), rfl, fun _ => rfl, fun _ hb => ?_⟩
      have hbd : lo ≤ m ∧ m ≤ hi := by
        rcases hb with hb | hb
        · simp only [Bool.and_eq_true, decide_eq_true_eq] at hb
          omega
        · simp only [maskSh, newSh, bdsM, bd1, iv] at hb
          exact ⟨hb.1.1 _ rfl, hb.1.2 _ rfl⟩
      simp only [Sh.rel]
      refine ⟨m, f, rfl, ka.w, fun he => ?_, hbd.1, hbd.2, rfl⟩
      rcases c3 with c | c | c | c
      · rw [he] at c; cases c
      · exact ka.ex c
      · exact ka.w.exact (by omega)
      · exact ka.w.exact (by omega)
  | .deep lay, x, flat, v, h, hx => by
    simp only [matchSh] at h
    split at h
    case h_2 => cases h
    rename_i y hy
    simp only [Option.some.injEq] at h; subst h
    obtain ⟨u, g1, g2⟩ := deepS_ok hr 4 lay x y v hy hx
    exact ⟨[v, u], denL_mk hx (denL_mk g1 (r := []) rfl), rfl, fun _ => rfl, fun _ _ => by simp only [Sh.rel]; exact ⟨u, g2, g2.one, rfl⟩⟩
  | .row e u n cs, x, flat, v, h, hx => by
    simp only [matchSh] at h
    split at h
    case h_3 => cases h
    · rename_i id len cp
      split at h
      case h_2 => cases h
      rename_i cells e' wr hf
      cases hc : Nat.beq len n && (Nat.beq e' e && (Nat.beq cells.length (cp * u))) with
      | false => rw [hc] at h; cases h
      | true =>
        rw [hc] at h
        simp only [Bool.and_eq_true] at hc
        have c1 := Nat.eq_of_beq_eq_true hc.1
        have c2 := Nat.eq_of_beq_eq_true hc.2.1
        have c3 := Nat.eq_of_beq_eq_true hc.2.2
        subst c1 c2
        simp only [cond_true] at h
        split at h
        case h_2 => cases h
        rename_i fl0 hfl0
        simp only [Option.some.injEq] at h; subst h
        obtain ⟨b, o, e1, e2, l, fz, e3, rfl, _⟩ := hr.heap id _ hf
        have hv : v = .slice (some ⟨b, 0, none⟩) len cp := by
          simp only [SV.den, e1, Cap.den, Option.some.injEq] at hx; exact hx.symm
        obtain ⟨fl, h2, h4, h5, h3⟩ := matchL_ok hr cs _ fl0 _ hfl0 (denL_take _ e3)
        refine ⟨v :: fl, denL_mk hx h2, by simp only [maskSh, List.length_cons, h4], fun m => by simp only [newSh, List.length_cons, h5], fun m hb => ?_⟩
        simp only [Sh.rel]
        exact ⟨b, cp, _, fl, ⟨l.drop (len * u), fz, by rw [List.take_append_drop]; exact e2, by rw [List.take_append_drop, denL_length e3, c3]⟩, hv, h3 (m + 1) (hb.imp (fun h => h) fun h => by simpa only [maskSh, newSh, bdsM] using h), rfl⟩
    · rename_i id len i
      split at h
      case h_2 => cases h
      rename_i cells e' wr j u' hf
      cases hc : Nat.beq len n && (Nat.beq e' e && (Nat.beq i j && Nat.beq u u')) with
      | false => rw [hc] at h; cases h
      | true =>
        rw [hc] at h
        simp only [Bool.and_eq_true] at hc
        have c1 := Nat.eq_of_beq_eq_true hc.1
        have c2 := Nat.eq_of_beq_eq_true hc.2.1
        have c3 := Nat.eq_of_beq_eq_true hc.2.2.1
        have c4 := Nat.eq_of_beq_eq_true hc.2.2.2
        subst c1 c2 c3 c4
        simp only [cond_true] at h
        split at h
        case h_2 => cases h
        rename_i fl0 hfl0
        simp only [Option.some.injEq] at h; subst h
        obtain ⟨b, o, e1, e2, l, r, cap, fz, e3, e4, e5, rfl, _⟩ := hr.heap id _ hf
        have hv : v = .slice (some ⟨b, 0, none⟩) len cap := by
          simp only [SV.den, e1, Cap.den, e4, Option.some.injEq] at hx; exact hx.symm
        obtain ⟨fl, h2, h4, h5, h3⟩ := matchL_ok hr cs _ fl0 _ hfl0 (denL_take _ e3)
        refine ⟨v :: fl, denL_mk hx h2, by simp only [maskSh, List.length_cons, h4], fun m => by simp only [newSh, List.length_cons, h5], fun m hb => ?_⟩
        simp only [Sh.rel]
        exact ⟨b, cap, _, fl, ⟨l.drop (len * u) ++ r, fz, by rw [← List.append_assoc, List.take_append_drop]; exact e2, by rw [← List.append_assoc, List.take_append_drop]; exact e5⟩, hv, h3 (m + 1) (hb.imp (fun h => h) fun h => by simpa only [maskSh, newSh, bdsM] using h), rfl⟩
theorem matchL_ok (hr : Rel B G w0 E S w) : ∀ (l : List Sh) (xs : List SV) (r : List SV × Bool) (vs : List Value), matchL S l xs = some r → SV.denL E xs = some vs → ∃ fl, SV.denL E r.1 = some fl ∧ (maskL l).length = fl.length ∧ (∀ n, (newL l n).1.length = fl.length) ∧
    ∀ n, (r.2 = true ∨ bdsM (maskL l) (newL l n).1 fl) → relL (inR w) l vs fl
  | [], [], flat, vs, h, hv => by
    simp only [matchL, Option.some.injEq] at h; subst h
    simp only [SV.denL, Option.some.injEq] at hv; subst hv
    exact ⟨[], rfl, rfl, fun _ => rfl, fun _ _ => by simp only [relL]; exact ⟨trivial, trivial⟩⟩
  | s :: r, x :: xs, flat, vs, h, hv => by
    simp only [matchL] at h
    split at h
    · rename_i a b ha hb
      simp only [Option.some.injEq] at h; subst h
      obtain ⟨v, vs', h1, h2, rfl⟩ := denL_cons hv
      obtain ⟨f1, k1, k5, k6, k2⟩ := matchSh_ok hr s x a v ha h1
      obtain ⟨f2, k3, k7, k8, k4⟩ := matchL_ok hr r xs b vs' hb h2
      refine ⟨f1 ++ f2, denL_append k1 k3, by simp only [maskL, List.length_append, k5, k7], fun n => by simp only [newL, List.length_append, k6, k8], fun n hbd => ?_⟩
      simp only [relL]
      rcases hbd with hbd | hbd
      · simp only [Bool.and_eq_true] at hbd
        exact ⟨v, vs', f1, f2, rfl, rfl, k2 n (.inl hbd.1), k4 0 (.inl hbd.2)⟩
      · simp only [maskL, newL] at hbd
        obtain ⟨b1, b2⟩ := bdsM_append k5 (k6 n) hbd
        exact ⟨v, vs', f1, f2, rfl, rfl, k2 n (.inr b1), k4 _ (.inr b2)⟩
    · cases h
  | [], _ :: _, _, _, h, _ => by simp [matchL] at h
  | _ :: _, [], _, _, h, _ => by simp [matchL] at h
end
theorem atMost1_cases {l : List LEnt} (h : atMost1 l = true) : l = [] ∨ ∃ x, l = [x] := by
  unfold atMost1 at h
  split at h
  · exact .inl rfl
  · exact .inr ⟨_, rfl⟩
  · cases h
theorem failOut_pan {c : Con} {flat : List SV} {S : St} {l : List (SV × St)} (h : failOut c flat S = some l) : ∀ p ∈ l, p.2.pan ≠ none := by
  unfold failOut at h
  split at h
  · simp only [Option.some.injEq] at h; subst h; intro p hp; cases hp
  · rename_i t sh _
    simp only at h
    cases hls : (listsSh true sh S.nsym).isEmpty && sh.noRow with
    | false => rw [hls] at h; cases h
    | true =>
      rw [hls] at h
      simp only [cond_true, Option.some.injEq] at h; subst h
      intro p hp
      simp only [List.mem_singleton] at hp; subst hp
      intro e; cases e
theorem conOne_ok {cond : World → Prop} (hcond : ∀ w, Below B w0.w w → cond w) {c : Con} (hc : c.ok P cond) {args : List SV} {S : St} {rs : List (SV × St)} (hpan : S.pan = none) (h : conOne c args S = some rs) :
    (∀ as w, (callFunc c.f as).run P w = .ok (.enter c.f as) w) ∧
    ∀ (E : Env) (vs : List Value) (w : World) (R : Ending → World → Prop), Rel B G w0 E S w → SV.denL E args = some vs →
    (∀ p ∈ rs, p.2.pan = none → ∀ (F : Env) (v : Value) (w' : World), E.le F → Rel B G w0 F p.2 w' → p.1.den F = some v → R (.returned v) w') →
    (∀ p ∈ rs, ∀ sv, p.2.pan = some sv → ∀ (F : Env) (v : Value) (w' : World), E.le F → Rel B G w0 F p.2 w' → sv.den F = some v → R (.panicked [entry1 v false]) w') →
    (∀ p ∈ rs, p.2.bad = true → ∀ (F : Env) (w' : World), E.le F → Rel B G w0 F p.2 w' → False) → Calls P c.f vs.toArray w R := by
  unfold conOne at h
  split at h
  · cases h
  rename_i flat tight hflat
  simp only at h
  cases h1 : (tight || c.loose) && (atMost1 (listsSh true c.out S.nsym) && c.out.noRow) with
  | false => rw [h1] at h; cases h
  | true =>
  rw [h1] at h
  simp only [cond_true] at h
  simp only [Bool.and_eq_true] at h1
  obtain ⟨_, h1, hnr⟩ := h1
  split at h
  case h_2 => cases h
  rename_i fo0 hfo0
  simp only [Option.some.injEq] at h; subst h
  obtain ⟨hent, hcon⟩ := hc
  refine ⟨fun as w => entersOf_ok hent as w, fun E vs w R hr hvs hR hP hbad => ?_⟩
  obtain ⟨fl, hfl, _, _, hin⟩ := matchL_ok hr c.ins args (flat, tight) vs hflat hvs
  have hfl := hide_den (bs := maskL c.ins) hfl
  by_cases hbd : tight = true ∨ bdsM (maskL c.ins) (newL c.ins 0).1 fl
  case neg =>
    have hbd : tight = false ∧ ¬ bdsM (maskL c.ins) (newL c.ins 0).1 fl := by
      cases tight with
      | true => exact (hbd (.inl rfl)).elim
      | false => exact ⟨rfl, fun h => hbd (.inr h)⟩
    refine (hbad (.val undef, addFact S (.npred (c.id ++ "Bds") (bdsM (maskL c.ins) (newL c.ins 0).1)) (hide (.val undef) (maskL c.ins) flat) true) ?_ rfl E w E.le_refl
      (hr.addFact (op := .npred (c.id ++ "Bds") (bdsM (maskL c.ins) (newL c.ins 0).1)) hfl (fun h => hbd.2 (bdsM_hide h)) true)).elim
    rw [hbd.1]
    exact List.mem_cons_of_mem _ List.mem_cons_self
  have hin := hin 0 hbd
  by_cases hpre : c.asks = true → c.pre (hide undef (maskL c.ins) fl)
  case neg =>
    have hpre : c.asks = true ∧ ¬ c.pre (hide undef (maskL c.ins) fl) := by
      by_cases h : c.asks = true
      · exact ⟨h, fun hp => hpre fun _ => hp⟩
      · exact absurd (fun h' => absurd h' h) hpre
    refine (hbad (.val undef, addFact S (.npred (c.id ++ "Pre") c.pre) (hide (.val undef) (maskL c.ins) flat) true) ?_ rfl E w E.le_refl (hr.addFact (op := .npred (c.id ++ "Pre") c.pre) hfl hpre.2 true)).elim
    rw [hpre.1]
    exact List.mem_cons_of_mem _ (List.mem_append_right _ (List.mem_append_left _ List.mem_cons_self))
  refine (hcon w vs fl (hcond w hr.below) hin hpre).mono fun e w' hend => ?_
  rcases hend with ⟨v, fo, he, hout, hrel, hb⟩ | ⟨t, sh, v, fo, hfail, he, hout, hrel, hb⟩
  · subst he
    have hr' := hr.after hb
    have hfit := newSh_fits c.out S.nsym v fo hout
    obtain ⟨hle, hr2⟩ := hr'.newSyms hfit
    have hcov := unks_covers E S.nsym fo
    obtain ⟨d1, d2⟩ := newSh_den c.out S.nsym v fo hout hcov (rowsAt_nil (noRow_ok _ _ hnr))
    have hlists := listsSh_rel (own := true) c.out S.nsym v fo hout hcov
    have key0 : Rel B G w0 (E.unks S.nsym fo) (newSt S (newSh c.out S.nsym).1 (listsSh true c.out S.nsym)) w' := by
      rcases atMost1_cases h1 with e | ⟨l, e⟩
      · rw [e]; exact hr2
      · rw [e]
        obtain ⟨u, cells, k1, k2, k3, k4, _⟩ := hlists l (by rw [e]; exact List.mem_cons_self)
        refine hr2.addList (l := l) (v := u) (cells := cells) (D := w.heap.size) (ListOut.lrel k3 hr.base k1 k2 rfl rfl k4) k4 (fun b hb => ListOut.block k3 hb) (fun i b hi => hr.dom i b hi) (fun m hm hmo x hx b hb => ?_)
        have hm' : m ∈ S.lists := by simpa [newSt] using hm
        obtain ⟨y, cs, hL⟩ := hr.lists m hm'
        have hx' := hr.listAt hm' hle hx
        have := hL.s; rw [hx'] at this; cases this
        exact (hL.lt hmo hb).2
    have key : Rel B G w0 (E.unks S.nsym fo) (newSt S (newSh c.out S.nsym).1 (listsSh true c.out S.nsym) (factsSh c.out S.nsym)) w' := key0.addFacts (factsSh_ok c.out S.nsym v fo hout hcov)
    exact hR _ List.mem_cons_self hpan (E.unks S.nsym fo) v w' hle (key.addFact (op := .pred c.id c.rel) (denL_append (SV.denL_mono hle _ _ hfl) (hide_den d2)) hrel false) d1
  · subst he
    unfold failOut at hfo0
    rw [hfail] at hfo0
    simp only at hfo0
    cases hls : (listsSh true sh S.nsym).isEmpty && sh.noRow with
    | false => rw [hls] at hfo0; cases hfo0
    | true =>
      rw [hls] at hfo0
      simp only [cond_true, Option.some.injEq] at hfo0; subst hfo0
      have hr' := hr.after hb
      have hfit := newSh_fits sh S.nsym v fo hout
      obtain ⟨hle, hr2⟩ := hr'.newSyms hfit
      have hcov := unks_covers E S.nsym fo
      obtain ⟨d1, d2⟩ := newSh_den sh S.nsym v fo hout hcov (rowsAt_nil (noRow_ok _ _ (by simp only [Bool.and_eq_true] at hls; exact hls.2)))
      exact hP _ (List.mem_cons_of_mem _ (List.mem_append_right _ (List.mem_append_right _ List.mem_cons_self))) _ rfl (E.unks S.nsym fo) (.iface t v) w' hle
        (((hr2.addFacts (factsSh_ok sh S.nsym v fo hout hcov)).addFact (op := .pred (c.id ++ "F") c.frel) (denL_append (SV.denL_mono hle _ _ hfl) (hide_den d2)) hrel false).frame rfl) (by simp only [SV.den, d1])
theorem conSumm_ok {cond : World → Prop} (hcond : ∀ w, Below B w0.w w → cond w) : ∀ {cons : List Con}, (∀ c ∈ cons, c.ok P cond) → SummOK B G w0 P (conSumm cons)
  | [], _ => fun _ _ _ _ _ h => by cases h
  | c :: r, hc => fun f args S rs hpan h => by
    have go := fun h => conSumm_ok hcond (cons := r) (fun c hm => hc c (List.mem_cons_of_mem _ hm)) f args S rs hpan h
    simp only [conSumm] at h
    cases hf : Nat.beq c.f f with
    | false => rw [hf] at h; exact go h
    | true =>
      rw [hf] at h
      have := Nat.eq_of_beq_eq_true hf
      subst this
      simp only [cond_true] at h
      split at h
      · rename_i l hl
        simp only [Option.some.injEq] at h; subst h
        exact conOne_ok hcond (hc c List.mem_cons_self) hpan hl
      · exact go h
mutual
def outSh (G : Nat) (S : St) : Sh → SV → Option (List SV × Bool)
  | .sc t, x => bif fitsS2 S x t then some ([x], true) else (match t with
    | .intIn k lo hi => bif looseInt S x k lo hi then some ([x], false) else none
    | _ => none)
  | .list e lay, x => match x with
    | .sym n => match listAt n S.lists with
      | some l => bif l.own && (Nat.beq l.e e && sameSos l.lay lay) then some ([.sym n, .sym l.x], true) else none
      | none => none
    | .slice id 0 len (.k cp) => match find id S.heap with
      | some (.row cells e' true none) => bif Nat.ble G id && (Nat.beq e' e && (Nat.blt 0 lay.length && (Nat.beq cells.length (cp * lay.length) && (Nat.ble len cp && (Nat.ble cp 140737488355328 && fitsRows S lay 0 (cells.take (len * lay.length))))))) then
          some ([.slice id 0 len (.k cp), .agg (cells.take (len * lay.length))], true) else none
      | _ => none
    | x => bif isNilS x && Nat.blt 0 lay.length then some ([x, .val (.agg #[])], true) else none
  | .agg l, x => match aggOf x with
    | some xs => outL G S l xs
    | none => none
  | .tup l, x => match tupOf x with
    | some xs => outL G S l xs
    | none => none
  | .whole ex lo hi, x => match wholeOf S x with
    | some p => bif (!ex || (p.ex || (decide (0 < p.lo) || decide (p.hi < 0)))) && (decide (lo ≤ p.hi) && decide (p.lo ≤ hi)) then some ([p.n, x], decide (lo ≤ p.lo) && decide (p.hi ≤ hi)) else none
    | none => none
  | .deep _, _ => none
  | .row _ _ _ _, _ => none
def outL (G : Nat) (S : St) : List Sh → List SV → Option (List SV × Bool)
  | [], [] => some ([], true)
  | s :: r, x :: xs => match outSh G S s x, outL G S r xs with
    | some a, some b => some (a.1 ++ b.1, a.2 && b.2)
    | _, _ => none
  | _, _ => none
end
mutual
theorem outSh_ok (hr : Rel B G w0 E S w) : ∀ (s : Sh) (x : SV) (r : List SV × Bool) (v : Value), outSh G S s x = some r → x.den E = some v → ∃ fl, SV.denL E r.1 = some fl ∧ (omaskSh s).length = fl.length ∧ (∀ n, (newSh s n).1.length = fl.length) ∧
    ∀ n, (r.2 = true ∨ bdsM (omaskSh s) (newSh s n).1 fl) → s.rel (outR B w) v fl
  | .sc t, x, r, v, h, hx => by
    simp only [outSh] at h
    cases hf : fitsS2 S x t with
    | true =>
      rw [hf] at h
      simp only [cond_true, Option.some.injEq] at h; subst h
      exact ⟨[v], denL_mk hx (r := []) rfl, rfl, fun _ => rfl, fun _ _ => by simp only [Sh.rel]; exact ⟨fitsS2_ok hr.env hf hx, trivial⟩⟩
    | false =>
      rw [hf] at h
      simp only [cond_false] at h
      split at h
      case h_2 => cases h
      rename_i k lo hi
      cases hl : looseInt S x k lo hi with
      | false => rw [hl] at h; cases h
      | true =>
        rw [hl] at h
        simp only [cond_true, Option.some.injEq] at h; subst h
        unfold looseInt at hl
        split at hl
        case h_2 => cases hl
        rename_i k' lx ux hio
        simp only [Bool.and_eq_true, decide_eq_true_eq] at hl
        obtain ⟨rfl, _⟩ := hl
        obtain ⟨n, rfl, _, _⟩ := intOf_ok hr.env hio hx
        refine ⟨[.int k' n], denL_mk hx (r := []) rfl, rfl, fun _ => rfl, fun _ hb => ?_⟩
        rcases hb with hb | hb
        · cases hb
        · simp only [omaskSh, maskSh, newSh, bdsM, bd1, iv] at hb
          simp only [Sh.rel]
          exact ⟨⟨n, rfl, hb.1.1, hb.1.2⟩, trivial⟩
  | .list e lay, x, r, v, h, hx => by
    simp only [outSh] at h
    split at h
    · rename_i n
      split at h
      · rename_i l hl
        cases hs : l.own && (Nat.beq l.e e && sameSos l.lay lay) with
        | false => rw [hs] at h; cases h
        | true =>
          rw [hs] at h
          simp only [cond_true, Option.some.injEq] at h; subst h
          simp only [Bool.and_eq_true] at hs
          obtain ⟨ho, he, hs⟩ := hs
          have hs := sameSos_eq hs
          have he := Nat.eq_of_beq_eq_true he
          subst hs he
          obtain ⟨hm, rfl⟩ := listAt_mem hl
          obtain ⟨u, cells, hL⟩ := hr.lists l hm
          have hv : u = v := by simp only [SV.den] at hx; rw [hL.s] at hx; exact Option.some.inj hx
          subst hv
          exact ⟨[u, .agg cells], denL_mk hx (denL_mk (x := .sym l.x) (by simp only [SV.den]; exact hL.x) (r := []) rfl), rfl, fun _ => rfl, fun _ _ => by
            simp only [Sh.rel]
            exact ⟨cells, { some_ := hL.some_, few := hL.few, whole := hL.whole, fit := hL.lay, own := hL.own ho }, ownsRow_one (hL.own ho), rfl⟩⟩
      · cases h
    · rename_i id len cp
      split at h
      case h_2 => cases h
      rename_i cells e' hf
      cases hs : Nat.ble G id && (Nat.beq e' e && (Nat.blt 0 lay.length && (Nat.beq cells.length (cp * lay.length) && (Nat.ble len cp && (Nat.ble cp 140737488355328 && fitsRows S lay 0 (cells.take (len * lay.length))))))) with
      | false => rw [hs] at h; cases h
      | true =>
        rw [hs] at h
        simp only [cond_true, Option.some.injEq] at h; subst h
        simp only [Bool.and_eq_true] at hs
        obtain ⟨c1, c2, c3, c4, c5, c6, c7⟩ := hs
        have c1 := Nat.le_of_ble_eq_true c1
        have c2 := Nat.eq_of_beq_eq_true c2
        have c3 : 0 < lay.length := Nat.le_of_ble_eq_true c3
        have c4 := Nat.eq_of_beq_eq_true c4
        have c5 := Nat.le_of_ble_eq_true c5
        have c6 := Nat.le_of_ble_eq_true c6
        subst c2
        obtain ⟨b, o, e1, e2, l, fz, e3, rfl, e4⟩ := hr.heap id _ hf
        have e4 : fz = (0, 0) := e4 rfl
        subst e4
        have hv : v = .slice (some ⟨b, 0, none⟩) len cp := by
          simp only [SV.den, e1, Cap.den, Option.some.injEq] at hx; exact hx.symm
        have hll := denL_length e3
        have htk := denL_take (len * lay.length) e3
        have hmul : len * lay.length ≤ cp * lay.length := Nat.mul_le_mul_right _ c5
        have hsz : (l.take (len * lay.length)).toArray.size = len * lay.length := by simp; omega
        have hdiv : (l.take (len * lay.length)).toArray.size / lay.length = len := by rw [hsz]; exact Nat.mul_div_cancel _ c3
        have hfit := fitsRows_ok hr.env 0 c7 htk
        refine ⟨[v, .agg (l.take (len * lay.length)).toArray], denL_mk hx (denL_mk (v := .agg (l.take (len * lay.length)).toArray) (by simp only [SV.den, htk]) (r := []) rfl), rfl, fun _ => rfl, fun _ _ => ?_⟩
        simp only [Sh.rel]
        refine ⟨_, { some_ := c3, few := by rw [hdiv]; omega, whole := by rw [hdiv, hsz], fit := fun j c hj => ?_, own := ?_ }, by rw [hv]; rfl, rfl⟩
        · obtain ⟨_, t, h1, h2⟩ := hfit j c (by simpa using hj)
          exact ⟨t, by simpa using h1, h2⟩
        · rw [hdiv]
          refine ⟨by simpa using hsz, .inr ⟨b, cp, _, hv, hr.own id _ b hf c1 e1, e2, c5, by simp only [maxLen]; omega, by simp; omega, by simp⟩⟩
    · cases hs : isNilS x && Nat.blt 0 lay.length with
      | false => rw [hs] at h; cases h
      | true =>
        rw [hs] at h
        simp only [cond_true, Option.some.injEq] at h; subst h
        simp only [Bool.and_eq_true] at hs
        have h1 := isNilS_eq hs.1
        have h2 : 0 < lay.length := Nat.le_of_ble_eq_true hs.2
        subst h1
        simp only [SV.den, Option.some.injEq] at hx; subst hx
        exact ⟨[.slice none 0 0, .agg #[]], denL_mk (x := .val (.slice none 0 0)) (by simp only [SV.den]) (denL_mk (x := .val (.agg #[])) (v := .agg #[]) (by simp only [SV.den]) (r := []) rfl), rfl, fun _ => rfl, fun _ _ => by
          simp only [Sh.rel]
          exact ⟨#[], { some_ := h2, few := by simp, whole := by simp, fit := fun j c hj => by simp at hj, own := by simpa using World.ownsRow_nil w B e lay.length }, rfl, rfl⟩⟩
  | .agg l, x, r, v, h, hx => by
    simp only [outSh] at h
    split at h
    · rename_i xs hxs
      obtain ⟨vs, h1, rfl⟩ := aggOf_den hxs hx
      obtain ⟨fl, h2, h4, h5, h3⟩ := outL_ok hr l xs r vs h h1
      exact ⟨fl, h2, h4, h5, fun n hb => by simp only [Sh.rel]; exact ⟨vs, rfl, h3 n hb⟩⟩
    · cases h
  | .tup l, x, r, v, h, hx => by
    simp only [outSh] at h
    split at h
    · rename_i xs hxs
      obtain ⟨vs, h1, rfl⟩ := tupOf_den hxs hx
      obtain ⟨fl, h2, h4, h5, h3⟩ := outL_ok hr l xs r vs h h1
      exact ⟨fl, h2, h4, h5, fun n hb => by simp only [Sh.rel]; exact ⟨vs, rfl, h3 n hb⟩⟩
    · cases h
  | .whole ex lo hi, x, r, v, h, hx => by
    simp only [outSh] at h
    split at h
    case h_2 => cases h
    rename_i p hp
    obtain ⟨m, f, ka⟩ := wholeOf_ok hr hp hx
    cases hc : (!ex || (p.ex || (decide (0 < p.lo) || decide (p.hi < 0)))) && (decide (lo ≤ p.hi) && decide (p.lo ≤ hi)) with
    | false => rw [hc] at h; cases h
    | true =>
      rw [hc] at h
      simp only [cond_true, Option.some.injEq] at h; subst h
      simp only [Bool.and_eq_true, decide_eq_true_eq, Bool.or_eq_true, Bool.not_eq_true'] at hc
      obtain ⟨c3, _⟩ := hc
      have b1 := ka.lo; have b2 := ka.hi
      have e1 := ka.v
      subst e1
      refine ⟨[.int .i64 m, .float .f64 f], denL_mk ka.n (denL_mk hx (r := []) rfl), rfl, fun _ => rfl, fun _ hb => ?_⟩
      have hbd : lo ≤ m ∧ m ≤ hi := by
        rcases hb with hb | hb
        · simp only [Bool.and_eq_true, decide_eq_true_eq] at hb
          omega
        · simp only [omaskSh, maskSh, newSh, bdsM, bd1, iv] at hb
          exact ⟨hb.1.1 _ rfl, hb.1.2 _ rfl⟩
      simp only [Sh.rel]
      refine ⟨m, f, rfl, ka.w, fun he => ?_, hbd.1, hbd.2, rfl⟩
      rcases c3 with c | c | c | c
      · rw [he] at c; cases c
      · exact ka.ex c
      · exact ka.w.exact (by omega)
      · exact ka.w.exact (by omega)
  | .deep lay, x, r, v, h, hx => by simp only [outSh] at h; cases h
  | .row _ _ _ _, x, r, v, h, hx => by simp only [outSh] at h; cases h
theorem outL_ok (hr : Rel B G w0 E S w) : ∀ (l : List Sh) (xs : List SV) (r : List SV × Bool) (vs : List Value), outL G S l xs = some r → SV.denL E xs = some vs → ∃ fl, SV.denL E r.1 = some fl ∧ (omaskL l).length = fl.length ∧ (∀ n, (newL l n).1.length = fl.length) ∧
    ∀ n, (r.2 = true ∨ bdsM (omaskL l) (newL l n).1 fl) → relL (outR B w) l vs fl
  | [], [], r, vs, h, hv => by
    simp only [outL, Option.some.injEq] at h; subst h
    simp only [SV.denL, Option.some.injEq] at hv; subst hv
    exact ⟨[], rfl, rfl, fun _ => rfl, fun _ _ => by simp only [relL]; exact ⟨trivial, trivial⟩⟩
  | s :: r, x :: xs, z, vs, h, hv => by
    simp only [outL] at h
    split at h
    · rename_i a b ha hb
      simp only [Option.some.injEq] at h; subst h
      obtain ⟨v, vs', h1, h2, rfl⟩ := denL_cons hv
      obtain ⟨f1, k1, k5, k6, k2⟩ := outSh_ok hr s x a v ha h1
      obtain ⟨f2, k3, k7, k8, k4⟩ := outL_ok hr r xs b vs' hb h2
      refine ⟨f1 ++ f2, denL_append k1 k3, by simp only [omaskL, List.length_append, k5, k7], fun n => by simp only [newL, List.length_append, k6, k8], fun n hbd => ?_⟩
      simp only [relL]
      rcases hbd with hbd | hbd
      · simp only [Bool.and_eq_true] at hbd
        exact ⟨v, vs', f1, f2, rfl, rfl, k2 n (.inl hbd.1), k4 0 (.inl hbd.2)⟩
      · simp only [omaskL, newL] at hbd
        obtain ⟨b1, b2⟩ := bdsM_append k5 (k6 n) hbd
        exact ⟨v, vs', f1, f2, rfl, rfl, k2 n (.inr b1), k4 _ (.inr b2)⟩
    · cases h
  | [], _ :: _, _, _, h, _ => by simp [outL] at h
  | _ :: _, [], _, _, h, _ => by simp [outL] at h
end
def andB (tight : Bool) (ms : List Bool) (ss : List Sort_) (fo : List Value) (q : Prop) : Prop := bif tight then q else (bdsM ms ss fo ∧ q)
theorem andB_ok {tight : Bool} {ms : List Bool} {ss : List Sort_} {fo : List Value} {q : Prop} (h : andB tight ms ss (hide undef ms fo) q) : (tight = true ∨ bdsM ms ss fo) ∧ q := by
  unfold andB at h
  cases tight with
  | true => exact ⟨.inl rfl, h⟩
  | false => exact ⟨.inr (bdsM_hide h.1), h.2⟩
def Con.base (c : Con) : Nat := match rowsL c.ins 0 with
  | [] => 0
  | _ => (newL c.ins 0).1.length
def Con.args (c : Con) : List SV := (newL c.ins 0).2.1
def Con.flat (c : Con) : List SV := hide (.val undef) (maskL c.ins) (newL c.ins 0).2.2
def Con.st (c : Con) : St :=
  let S := { addDeeps (deepsL c.ins 0) (newSt none0 (newL c.ins 0).1 (listsL false c.ins 0) (factsL c.ins 0)) with exd := c.exd, mrg := c.mrg, heap := rowsL c.ins 0, next := c.base, ncap := c.base }
  bif c.asks then addFact S (.pred (c.id ++ "Pre") c.pre) c.flat false else S
def leafGoal (c : Con) (σ : Nat → Value) (o : Out) : Prop :=
  imps (o.st.says σ) (bif o.st.bad then False else match o.kind with
    | .val sv => match outSh c.base o.st c.out sv with
      | some fo0 => (fun fo => bif purL c.flat && purL fo then andB fo0.2 (omaskSh c.out) (newSh c.out 0).1 (atL σ fo) (c.rel (atL σ c.flat ++ atL σ fo)) else False) (hide (.val undef) (omaskSh c.out) fo0.1)
      | none => False
    | .panic (.iface t sv) => match c.fails with
      | some (t', sh) => bif Nat.beq t t' then (match outSh c.base o.st sh sv with
        | some fo0 => (fun fo => bif purL c.flat && purL fo then andB fo0.2 (omaskSh sh) (newSh sh 0).1 (atL σ fo) (c.frel (atL σ c.flat ++ atL σ fo)) else False) (hide (.val undef) (omaskSh sh) fo0.1)
        | none => False) else False
      | none => False
    | _ => False)
def goalsL (c : Con) : List Out → Prop
  | [] => True
  | o :: r => (∀ σ, leafGoal c σ o) ∧ goalsL c r
def Con.goals (c : Con) (C : Cfg) (K : List (Nat × Nat × LSpec)) (n : Nat) : Prop :=
  match evaluateK C K n (.call c.f c.args c.st) with
  | some outs => goalsL c outs
  | none => False
theorem goalsL_mem {c : Con} : ∀ {l : List Out}, goalsL c l → ∀ o ∈ l, ∀ σ, leafGoal c σ o
  | _ :: _, h, _, .head _ => h.1
  | _ :: _, h, o, .tail _ ho => goalsL_mem h.2 o ho
theorem lists_old {c : Con} {w : World} {vs fl : List Value} (h : relL (inR w) c.ins vs fl) : ∀ l ∈ listsL false c.ins 0, ∃ v cells, LRel w.heap.size ⟨w, [], P⟩ (env0.unks 0 fl) w l v cells ∧ l.own = false := fun l hl => by
  obtain ⟨v, cells, k1, k2, k3, k4, _⟩ := listsL_rel c.ins 0 vs fl h (unks_covers env0 0 fl) l hl
  have k3 : ListIn w l.lay v cells := k3
  refine ⟨v, cells, { s := k1, x := k2, some_ := k3.some_, few := k3.few, whole := k3.whole, lay := k3.fit, own := fun h => (by rw [k4] at h; cases h), old := fun _ => ?_ }, k4⟩
  rcases k3.at_ with h | ⟨a, cap, e1, e2, e3⟩
  · exact .inl h
  · exact .inr ⟨a, cap, e1, e2, e3⟩
theorem Rel.withRows {fl : List Value} {S : St} {rs : List (Nat × SObj)} {N : Nat} (hr : Rel w.heap.size 0 ⟨w, [], P⟩ (env0.unks 0 fl) S w) 
    (hro : ∀ r ∈ rs, r.1 < N ∧ ∃ b x, ((env0.unks 0 fl).rows fl rs).ρ r.1 = some b ∧ w.heap[b]? = some x ∧ ORel ((env0.unks 0 fl).rows fl rs) r.2 x) (hgs : S.gs = []) :
    Rel w.heap.size N ⟨w, [], P⟩ ((env0.unks 0 fl).rows fl rs) { S with heap := rs, next := N, ncap := N } w := by
  have hρ : ∀ i b, ((env0.unks 0 fl).rows fl rs).ρ i = some b → i < N ∧ b < w.heap.size := fun i b h => by
    simp only [Env.rows] at h
    split at h
    · rename_i o hf
      obtain ⟨h1, c, x, h2, h3, _⟩ := hro _ (find_mem' hf)
      simp only [Env.rows, hf] at h2
      rw [h] at h2; cases h2
      exact ⟨h1, (Array.getElem?_eq_some_iff.1 h3).1⟩
    · cases h
  have hκ : ∀ i c, ((env0.unks 0 fl).rows fl rs).κ i = some c → i < N := fun i b h => by
    simp only [Env.rows] at h
    split at h
    · rename_i o hf; exact (hro _ (find_mem' hf)).1
    · cases h
  have hle : (env0.unks 0 fl).le ((env0.unks 0 fl).rows fl rs) := ⟨fun i b h => (by cases h), fun i b h => h, fun i b h => (by cases h)⟩
  exact
  { heap := fun id o hf => by
      obtain ⟨_, b, x, h2, h3, h4⟩ := hro _ (find_mem' hf)
      exact ⟨b, x, h2, h3, h4⟩
    inj := fun i j a b c _ _ h1 _ g1 _ => by have := (hρ i c h1).1; omega
    low := fun i o b _ _ h => (hρ i b h).2
    next := Nat.le_refl _
    newρ := fun i hi => by
      cases h : ((env0.unks 0 fl).rows fl rs).ρ i with
      | none => rfl
      | some b => have := (hρ i b h).1; have hi : N ≤ i := hi; omega
    newσ := hr.newσ
    newκ := fun i hi => by
      cases h : ((env0.unks 0 fl).rows fl rs).κ i with
      | none => rfl
      | some b => have := hκ i b h; have hi : N ≤ i := hi; omega
    dom := fun i b h => (hρ i b h).2
    own := fun i o b _ hg h => by have := (hρ i b h).1; omega
    base := hr.base
    below := hr.below
    lows := fun i n h => by obtain ⟨m, h1, _⟩ := hr.lows i n h; cases h1
    sorts := hr.sorts
    pc := hr.pc
    glob := fun i hi => by rw [hgs] at hi; cases hi
    pins := hr.pins
    ro := hr.ro
    ra := hr.ra
    deeps := hr.deeps
    facts := fun q hq => by obtain ⟨vs, v, h1, h2, h3⟩ := hr.facts q hq; exact ⟨vs, v, SV.denL_mono hle _ _ h1, SV.den_mono hle _ _ h2, h3⟩
    lists := fun l hl => by obtain ⟨v, cells, h⟩ := hr.lists l hl; exact ⟨v, cells, h.mono hle⟩
    apart := fun l hl ho v hv b hb => by
      obtain ⟨u, cells, h⟩ := hr.lists l hl
      have := h.s; rw [show (env0.unks 0 fl).σ l.s = some v from hv] at this; cases this
      have := (h.lt ho hb)
      omega }
theorem start_rel {c : Con} {w : World} {vs fl : List Value} (h : relL (inR w) c.ins vs fl) (hp : c.asks = true → c.pre (hide undef (maskL c.ins) fl)) :
    ∃ E, Rel w.heap.size c.base ⟨w, [], P⟩ E c.st w ∧ SV.denL E c.args = some vs ∧ SV.denL E c.flat = some (hide undef (maskL c.ins) fl) := by
  have hfit := newL_fits c.ins 0 vs fl h
  have hflen := fitsL_length hfit
  obtain ⟨_, hr⟩ := (rel0 P w).newSyms hfit
  have hcov := unks_covers env0 0 fl
  have hcov' : Covers ((env0.unks 0 fl).rows fl (rowsL c.ins 0)) 0 fl := hcov
  have hra := rows_at (env0.unks 0 fl) fl (rowsL c.ins 0)
  obtain ⟨d1, d2⟩ := newL_den c.ins 0 vs fl h hcov' hra
  have hls := lists_old (P := P) h
  have key0 : Rel w.heap.size 0 ⟨w, [], P⟩ (env0.unks 0 fl) (newSt none0 (newL c.ins 0).1 (listsL false c.ins 0)) w :=
    { hr with
      lists := fun l hl => by
        have hl : l ∈ listsL false c.ins 0 := by simpa [newSt, none0] using hl
        obtain ⟨v, cells, k, _⟩ := hls l hl
        exact ⟨v, cells, k⟩
      apart := fun l hl ho => by
        have hl : l ∈ listsL false c.ins 0 := by simpa [newSt, none0] using hl
        obtain ⟨v, cells, _, k⟩ := hls l hl
        rw [k] at ho; cases ho }
  have key1 : Rel w.heap.size 0 ⟨w, [], P⟩ (env0.unks 0 fl) (newSt none0 (newL c.ins 0).1 (listsL false c.ins 0) (factsL c.ins 0)) w := key0.addFacts (factsL_ok c.ins 0 vs fl h hcov)
  have key2 := key1.addDeeps (deepsL c.ins 0) _ (deepsL_ok c.ins 0 vs fl h hcov)
  have hshape : ∀ (l : List (Nat × List Lay)) (S : St), (addDeeps l S).gs = S.gs := fun l => by
    induction l with
    | nil => intro S; rfl
    | cons p r ih =>
      intro S
      simp only [addDeeps]
      rw [ih (addDeep S p.1 (p.1 + 1) p.2)]
      unfold addDeep
      split <;> rfl
  have s2 := hshape (deepsL c.ins 0) (newSt none0 (newL c.ins 0).1 (listsL false c.ins 0) (factsL c.ins 0))
  have hG : rowsL c.ins 0 = [] ∨ c.base = (newL c.ins 0).1.length := by
    unfold Con.base
    split
    · rename_i e; exact .inl e
    · exact .inr rfl
  have hrows := rowsL_ok c.ins 0 vs fl h hcov' hra
  have key3 := key2.withRows (rs := rowsL c.ins 0) (N := c.base) (fun r hr => by
    obtain ⟨k1, k2, k3⟩ := hrows r hr
    refine ⟨?_, k3⟩
    rcases hG with e | e
    · rw [e] at hr; cases hr
    · rw [e]; omega) (by rw [s2]; rfl)
  have key : Rel w.heap.size c.base ⟨w, [], P⟩ ((env0.unks 0 fl).rows fl (rowsL c.ins 0)) { addDeeps (deepsL c.ins 0) (newSt none0 (newL c.ins 0).1 (listsL false c.ins 0) (factsL c.ins 0)) with exd := c.exd, mrg := c.mrg, heap := rowsL c.ins 0, next := c.base, ncap := c.base } w := { key3 with }
  have d3 := hide_den (bs := maskL c.ins) d2
  refine ⟨_, ?_, d1, d3⟩
  unfold Con.st
  cases ha : c.asks with
  | false => exact key
  | true => exact key.addFact (op := .pred (c.id ++ "Pre") c.pre) d3 (hp ha) false
theorem con_ok {c : Con} {C : Cfg} {K : List (Nat × Nat × LSpec)} {n : Nat} (hm : P.follows .mixedOrders = true) (he : entersOf P c.f = true) {cond : World → Prop} (hC : ∀ w : World, cond w → CfgOK w.heap.size c.base ⟨w, [], P⟩ P C) (h : c.goals C K n) : c.ok P cond := by
  refine ⟨he, fun w vs fl hw hin hp => ?_⟩
  unfold Con.goals at h
  split at h
  case h_2 => exact h.elim
  rename_i outs ho
  obtain ⟨E0, hr, h1, h2⟩ := start_rel (P := P) hin hp
  have hg := goalsL_mem h
  refine evaluateK_ok (hC w hw) hm K n _ _ ho _ vs w _ hr h1 (fun o hmem F sv v w' k1 k2 k3 k4 => ?_) (fun o hmem F sv v w' k1 k2 k3 k4 => ?_) (fun o hmem hb F w' k1 k2 => ?_)
  · have g := imps_mp (hg o hmem F.val) (says_ok k2)
    cases hb : o.st.bad with
    | true => rw [hb] at g; exact g.elim
    | false =>
      rw [hb, k3] at g
      simp only [cond_false] at g
      split at g
      · rename_i fo hfo
        cases hpu : purL c.flat && purL (hide (.val undef) (omaskSh c.out) fo.1) with
        | false => rw [hpu] at g; exact g.elim
        | true =>
          rw [hpu] at g
          simp only [Bool.and_eq_true] at hpu
          simp only [cond_true] at g
          obtain ⟨fl', e1, _, _, e2⟩ := outSh_ok k2 c.out sv fo v hfo k4
          rw [atL_den _ _ hpu.1 (SV.denL_mono k1 _ _ h2), atL_den _ _ hpu.2 (hide_den e1)] at g
          obtain ⟨g1, g2⟩ := andB_ok g
          exact .inl ⟨v, fl', rfl, e2 0 g1, g2, k2.below⟩
      · exact g.elim
  · have g := imps_mp (hg o hmem F.val) (says_ok k2)
    cases hb : o.st.bad with
    | true => rw [hb] at g; exact g.elim
    | false =>
      rw [hb, k3] at g
      simp only [cond_false] at g
      split at g
      · rename_i heq; cases heq
      · rename_i t sv' heq
        cases heq
        split at g
        · rename_i t' sh hfail
          cases ht : Nat.beq t t' with
          | false => rw [ht] at g; exact g.elim
          | true =>
            have := Nat.eq_of_beq_eq_true ht
            subst this
            rw [ht] at g
            simp only [cond_true] at g
            split at g
            · rename_i fo hfo
              cases hpu : purL c.flat && purL (hide (.val undef) (omaskSh sh) fo.1) with
              | false => rw [hpu] at g; exact g.elim
              | true =>
                rw [hpu] at g
                simp only [Bool.and_eq_true] at hpu
                simp only [cond_true] at g
                simp only [SV.den] at k4
                split at k4
                · rename_i u hu
                  simp only [Option.some.injEq] at k4; subst k4
                  obtain ⟨fl', e1, _, _, e2⟩ := outSh_ok k2 sh sv' fo u hfo hu
                  rw [atL_den _ _ hpu.1 (SV.denL_mono k1 _ _ h2), atL_den _ _ hpu.2 (hide_den e1)] at g
                  obtain ⟨g1, g2⟩ := andB_ok g
                  exact .inr ⟨t, sh, u, fl', hfail, rfl, e2 0 g1, g2, k2.below⟩
                · cases k4
            · exact g.elim
        · exact g.elim
      · exact g.elim
  · have g := imps_mp (hg o hmem F.val) (says_ok k2)
    rw [hb] at g
    exact g.elim
def cfgG (P : Program) (G : Nat) (enters : Nat → Bool) (X : List (Nat × ExtOp)) (cons : List Con) : Cfg := { cfg P G enters X with summ := conSumm cons }
theorem cfgG_ok {G : Nat} {enters : Nat → Bool} (he : ∀ f, enters f = true → entersOf P f = true) {X : List (Nat × ExtOp)} (hX : ∀ p ∈ X, ExtAt P p.1 p.2) {cond : World → Prop} (hs : ∀ w w', cond w → Below w.heap.size w w' → cond w') {cons : List Con} (hc : ∀ c ∈ cons, c.ok P cond) (w : World) (hw : cond w) : CfgOK w.heap.size G ⟨w, [], P⟩ P (cfgG P G enters X cons) :=
  { (cfg_ok (B := w.heap.size) (G := G) (w0 := ⟨w, [], P⟩) rfl he hX) with summ := conSumm_ok (fun w' hb => hs w w' hw hb) hc }
def cfgC (P : Program) (enters : Nat → Bool) (X : List (Nat × ExtOp)) (cons : List Con) : Cfg := cfgG P 0 enters X cons
theorem cfgC_ok {enters : Nat → Bool} (he : ∀ f, enters f = true → entersOf P f = true) {X : List (Nat × ExtOp)} (hX : ∀ p ∈ X, ExtAt P p.1 p.2) {cond : World → Prop} (hs : ∀ w w', cond w → Below w.heap.size w w' → cond w') {cons : List Con} (hc : ∀ c ∈ cons, c.ok P cond) (w : World) (hw : cond w) : CfgOK w.heap.size 0 ⟨w, [], P⟩ P (cfgC P enters X cons) := cfgG_ok he hX hs hc w hw
theorem con_true {f : Nat} {cond : World → Prop} (he : entersOf P f = true) (h : ∀ w : World, cond w → Calls P f (#[] : Array Value) w fun e w' => e = .returned (.bool true) ∧ Below w.heap.size w w') :
    ({ f := f, ins := [], out := .sc .bool, id := "isTrue", rel := fun vs => vs = [.bool true] } : Con).ok P cond := by
  refine ⟨he, fun w vs fl hw hin _ => ?_⟩
  simp only [relL] at hin
  obtain ⟨rfl, rfl⟩ := hin
  exact (h w hw).mono fun e w' ⟨h1, h2⟩ => .inl ⟨.bool true, [.bool true], h1, by simp only [Sh.rel]; exact ⟨⟨true, rfl⟩, trivial⟩, rfl, h2⟩
end
end Go.Ev
