/- Contracts of functions: flat values, a relation; and how the evaluator shows one. -/
import Derived.Test.YtdihaemeipdfgaaGreatDoorEvLeaf2
import Derived.Test.YtdihaemeipdfgaaGreatDoorEvTop
namespace Go.Ev
open Go.RowKit (Below)

/-- The shape of a value that is handed over. -/
inductive Sh where
  | sc (t : Sort_)
  | list (e : TypeId) (lay : List Sort_)
  | agg (l : List Sh)
  | tup (l : List Sh)

/-- A list of elements, read in a world. -/
structure ListIn (w : World) (lay : List Sort_) (v : Value) (cells : Array Value) : Prop where
  some_ : 0 < lay.length
  few : cells.size / lay.length ≤ 140737488355328
  whole : cells.size = cells.size / lay.length * lay.length
  fit : ∀ (j : Nat) (c : Value), cells[j]? = some c → ∃ t, lay[j % lay.length]? = some t ∧ t.fits c
  at_ : (v = .slice none 0 0 ∧ cells = #[]) ∨ ∃ a cap, v = .slice (some a) (cells.size / lay.length) cap ∧ a.block < w.heap.size ∧ ∀ (j : Nat) (c : Value), cells[j]? = some c → w.cell? (a.add j) = some c

/-- A list of elements that the call has made. -/
structure ListOut (B : Nat) (w : World) (e : TypeId) (lay : List Sort_) (v : Value) (cells : Array Value) : Prop where
  some_ : 0 < lay.length
  few : cells.size / lay.length ≤ 140737488355328
  whole : cells.size = cells.size / lay.length * lay.length
  fit : ∀ (j : Nat) (c : Value), cells[j]? = some c → ∃ t, lay[j % lay.length]? = some t ∧ t.fits c
  own : w.ownsRow B e lay.length v (cells.size / lay.length) cells.toList

abbrev ListR := TypeId → List Sort_ → Value → Array Value → Prop

mutual
/-- A value of that shape, and its flat values. -/
def Sh.rel (R : ListR) : Sh → Value → List Value → Prop
  | .sc t, v, fl => t.fits v ∧ fl = [v]
  | .list e lay, v, fl => ∃ cells, R e lay v cells ∧ v.oneCell' = true ∧ fl = [v, .agg cells]
  | .agg l, v, fl => ∃ vs : List Value, v = .agg vs.toArray ∧ relL R l vs fl
  | .tup l, v, fl => ∃ vs : List Value, v = .tuple vs.toArray ∧ relL R l vs fl
def relL (R : ListR) : List Sh → List Value → List Value → Prop
  | [], vs, fl => vs = [] ∧ fl = []
  | s :: r, vs, fl => ∃ v vs' f1 f2, vs = v :: vs' ∧ fl = f1 ++ f2 ∧ s.rel R v f1 ∧ relL R r vs' f2
end

abbrev inR (w : World) : ListR := fun _ lay v c => ListIn w lay v c
abbrev outR (B : Nat) (w : World) : ListR := fun e lay v c => ListOut B w e lay v c

/-- A contract. -/
structure Con where
  f : Nat
  ins : List Sh
  out : Sh
  id : String
  pre : List Value → Prop := fun _ => True
  asks : Bool := false
  rel : List Value → Prop

/-- It holds in the worlds of a kind. -/
def Con.ok (P : Program) (cond : World → Prop) (c : Con) : Prop :=
  entersOf P c.f = true ∧ ∀ (w : World) (vs fl : List Value), cond w → relL (inR w) c.ins vs fl → (c.asks = true → c.pre fl) →
    Calls P c.f vs.toArray w fun e w' => ∃ v fo, e = .returned v ∧ c.out.rel (outR w.heap.size w') v fo ∧ c.rel (fl ++ fo) ∧ Below w.heap.size w w'

/-! ### A caller -/
/-- Of the sort, an interval's too. -/
def fitsS2 (S : St) (x : SV) : Sort_ → Bool
  | .intIn k lo hi => match intOf S x with
    | some (k', lx, hx) => decide (k' = k) && ((match lo with | none => true | some a => leO (some a) lx) && (match hi with | none => true | some a => leO hx (some a)))
    | none => false
  | t => fitsS S x t

mutual
def matchSh (S : St) : Sh → SV → Option (List SV)
  | .sc t, x => bif fitsS2 S x t then some [x] else none
  | .list _ lay, x => match x with
    | .sym n => match listAt n S.lists with
      | some l => bif sameSos l.lay lay then some [.sym n, .sym l.x] else none
      | none => none
    | x => bif isNilS x && Nat.blt 0 lay.length then some [x, .val (.agg #[])] else none
  | .agg l, x => match aggOf x with
    | some xs => matchL S l xs
    | none => none
  | .tup l, x => match tupOf x with
    | some xs => matchL S l xs
    | none => none
def matchL (S : St) : List Sh → List SV → Option (List SV)
  | [], [] => some []
  | s :: r, x :: xs => match matchSh S s x, matchL S r xs with
    | some a, some b => some (a ++ b)
    | _, _ => none
  | _, _ => none
end

mutual
/-- New unknowns of the shape: what they are sorted as, what they are, and how they stand together. -/
def newSh : Sh → Nat → List Sort_ × SV × List SV
  | .sc t, n => ([t], .sym n, [.sym n])
  | .list _ _, n => ([.cell, .any], .sym n, [.sym n, .sym (n + 1)])
  | .agg l, n => let r := newL l n; (r.1, .agg r.2.1, r.2.2)
  | .tup l, n => let r := newL l n; (r.1, .tuple r.2.1, r.2.2)
def newL : List Sh → Nat → List Sort_ × List SV × List SV
  | [], _ => ([], [], [])
  | s :: r, n => let a := newSh s n; let b := newL r (n + a.1.length); (a.1 ++ b.1, a.2.1 :: b.2.1, a.2.2 ++ b.2.2)
end

mutual
/-- The lists among them. -/
def listsSh (own : Bool) : Sh → Nat → List LEnt
  | .sc _, _ => []
  | .list e lay, n => [{ s := n, x := n + 1, e := e, lay := lay, own := own }]
  | .agg l, n => listsL own l n
  | .tup l, n => listsL own l n
def listsL (own : Bool) : List Sh → Nat → List LEnt
  | [], _ => []
  | s :: r, n => listsSh own s n ++ listsL own r (n + (newSh s n).1.length)
end

def conOf (f : Nat) : List Con → Option Con
  | [] => none
  | c :: r => bif Nat.beq c.f f then some c else conOf f r

def newSt (S : St) (srts : List Sort_) (ls : List LEnt) : St := { S with nsym := S.nsym + srts.length, sorts := enumS S.nsym srts ++ S.sorts, lists := ls ++ S.lists }

def atMost1 : List LEnt → Bool
  | [] => true
  | [_] => true
  | _ => false

def conSumm (cons : List Con) (f : Nat) (args : List SV) (S : St) : Option (List (SV × St)) :=
  match conOf f cons with
  | none => none
  | some c => match matchL S c.ins args with
    | none => none
    | some flat =>
      let r := newSh c.out S.nsym
      let ls := listsSh true c.out S.nsym
      bif atMost1 ls then
        some ((r.2.1, addFact (newSt S r.1 ls) (.pred c.id c.rel) (flat ++ r.2.2) false) :: (bif c.asks then [(.val undef, addFact S (.npred (c.id ++ "Pre") c.pre) flat true)] else []))
      else none

/-! ### New unknowns -/
def Covers (E : Env) (n : Nat) (fl : List Value) : Prop := ∀ (j : Nat) (v : Value), fl[j]? = some v → E.σ (n + j) = some v

theorem Covers.left {E : Env} {n : Nat} {a b : List Value} (h : Covers E n (a ++ b)) : Covers E n a := fun j v hj => h j v (by
  rw [List.getElem?_append_left (List.getElem?_eq_some_iff.1 hj).1]; exact hj)
theorem Covers.right {E : Env} {n : Nat} {a b : List Value} (h : Covers E n (a ++ b)) : Covers E (n + a.length) b := fun j v hj => by
  have := h (a.length + j) v (by rw [List.getElem?_append_right (by omega), show a.length + j - a.length = j by omega]; exact hj)
  rwa [show n + a.length + j = n + (a.length + j) by omega]

theorem fitsL_append : ∀ {a b : List Sort_} {u v : List Value}, fitsL a u → fitsL b v → fitsL (a ++ b) (u ++ v)
  | [], _, [], _, _, h => h
  | _ :: _, _, _ :: _, _, h, k => ⟨h.1, fitsL_append h.2 k⟩
  | [], _, _ :: _, _, h, _ => h.elim
  | _ :: _, _, [], _, h, _ => h.elim

section
variable {R : ListR}

mutual
theorem newSh_fits : ∀ (s : Sh) (n : Nat) (v : Value) (fl : List Value), s.rel R v fl → fitsL (newSh s n).1 fl
  | .sc t, n, v, fl, h => by
    simp only [Sh.rel] at h
    obtain ⟨h1, rfl⟩ := h
    exact ⟨h1, trivial⟩
  | .list e lay, n, v, fl, h => by
    simp only [Sh.rel] at h
    obtain ⟨cells, _, h1, rfl⟩ := h
    exact ⟨h1, trivial, trivial⟩
  | .agg l, n, v, fl, h => by
    simp only [Sh.rel] at h
    obtain ⟨vs, _, h⟩ := h
    exact newL_fits l n vs fl h
  | .tup l, n, v, fl, h => by
    simp only [Sh.rel] at h
    obtain ⟨vs, _, h⟩ := h
    exact newL_fits l n vs fl h
theorem newL_fits : ∀ (l : List Sh) (n : Nat) (vs fl : List Value), relL R l vs fl → fitsL (newL l n).1 fl
  | [], n, vs, fl, h => by
    simp only [relL] at h
    obtain ⟨_, rfl⟩ := h
    exact trivial
  | s :: r, n, vs, fl, h => by
    simp only [relL] at h
    obtain ⟨v, vs', f1, f2, rfl, rfl, h1, h2⟩ := h
    exact fitsL_append (newSh_fits s n v f1 h1) (newL_fits r _ vs' f2 h2)
end

mutual
theorem newSh_den {E : Env} : ∀ (s : Sh) (n : Nat) (v : Value) (fl : List Value), s.rel R v fl → Covers E n fl → (newSh s n).2.1.den E = some v ∧ SV.denL E (newSh s n).2.2 = some fl
  | .sc t, n, v, fl, h, hc => by
    simp only [Sh.rel] at h
    obtain ⟨h1, rfl⟩ := h
    have : (SV.sym n).den E = some v := by simp only [SV.den]; exact hc 0 v rfl
    exact ⟨this, denL_mk this (r := []) rfl⟩
  | .list e lay, n, v, fl, h, hc => by
    simp only [Sh.rel] at h
    obtain ⟨cells, _, h1, rfl⟩ := h
    have h0 : (SV.sym n).den E = some v := by simp only [SV.den]; exact hc 0 v rfl
    have h1 : (SV.sym (n + 1)).den E = some (.agg cells) := by simp only [SV.den]; exact hc 1 _ rfl
    exact ⟨h0, denL_mk h0 (denL_mk h1 (r := []) rfl)⟩
  | .agg l, n, v, fl, h, hc => by
    simp only [Sh.rel] at h
    obtain ⟨vs, rfl, h⟩ := h
    obtain ⟨h1, h2⟩ := newL_den l n vs fl h hc
    exact ⟨by simp only [newSh, SV.den, h1], h2⟩
  | .tup l, n, v, fl, h, hc => by
    simp only [Sh.rel] at h
    obtain ⟨vs, rfl, h⟩ := h
    obtain ⟨h1, h2⟩ := newL_den l n vs fl h hc
    exact ⟨by simp only [newSh, SV.den, h1], h2⟩
theorem newL_den {E : Env} : ∀ (l : List Sh) (n : Nat) (vs fl : List Value), relL R l vs fl → Covers E n fl → SV.denL E (newL l n).2.1 = some vs ∧ SV.denL E (newL l n).2.2 = some fl
  | [], n, vs, fl, h, hc => by
    simp only [relL] at h
    obtain ⟨rfl, rfl⟩ := h
    exact ⟨rfl, rfl⟩
  | s :: r, n, vs, fl, h, hc => by
    simp only [relL] at h
    obtain ⟨v, vs', f1, f2, rfl, rfl, h1, h2⟩ := h
    obtain ⟨k1, k2⟩ := newSh_den s n v f1 h1 hc.left
    have hlen : (newSh s n).1.length = f1.length := fitsL_length (newSh_fits s n v f1 h1)
    obtain ⟨k3, k4⟩ := newL_den r (n + (newSh s n).1.length) vs' f2 h2 (by rw [hlen]; exact hc.right)
    exact ⟨denL_mk k1 k3, denL_append k2 k4⟩
end

mutual
/-- The lists among them, each related. -/
theorem listsSh_rel {E : Env} {own : Bool} : ∀ (s : Sh) (n : Nat) (v : Value) (fl : List Value), s.rel R v fl → Covers E n fl → ∀ l ∈ listsSh own s n, ∃ v cells, E.σ l.s = some v ∧ E.σ l.x = some (.agg cells) ∧ R l.e l.lay v cells ∧ l.own = own ∧ n ≤ l.s
  | .sc t, n, v, fl, h, hc, l, hl => by simp [listsSh] at hl
  | .list e lay, n, v, fl, h, hc, l, hl => by
    simp only [Sh.rel] at h
    obtain ⟨cells, h0, h1, rfl⟩ := h
    simp only [listsSh, List.mem_singleton] at hl; subst hl
    exact ⟨v, cells, hc 0 v rfl, hc 1 _ rfl, h0, rfl, Nat.le_refl _⟩
  | .agg l, n, v, fl, h, hc, x, hx => by
    simp only [Sh.rel] at h
    obtain ⟨vs, rfl, h⟩ := h
    exact listsL_rel l n vs fl h hc x hx
  | .tup l, n, v, fl, h, hc, x, hx => by
    simp only [Sh.rel] at h
    obtain ⟨vs, rfl, h⟩ := h
    exact listsL_rel l n vs fl h hc x hx
theorem listsL_rel {E : Env} {own : Bool} : ∀ (l : List Sh) (n : Nat) (vs fl : List Value), relL R l vs fl → Covers E n fl → ∀ x ∈ listsL own l n, ∃ v cells, E.σ x.s = some v ∧ E.σ x.x = some (.agg cells) ∧ R x.e x.lay v cells ∧ x.own = own ∧ n ≤ x.s
  | [], n, vs, fl, h, hc, x, hx => by simp [listsL] at hx
  | s :: r, n, vs, fl, h, hc, x, hx => by
    simp only [relL] at h
    obtain ⟨v, vs', f1, f2, rfl, rfl, h1, h2⟩ := h
    simp only [listsL, List.mem_append] at hx
    rcases hx with hx | hx
    · exact listsSh_rel s n v f1 h1 hc.left x hx
    · have hlen : (newSh s n).1.length = f1.length := fitsL_length (newSh_fits s n v f1 h1)
      obtain ⟨u, cells, k1, k2, k3, k4, k5⟩ := listsL_rel r (n + (newSh s n).1.length) vs' f2 h2 (by rw [hlen]; exact hc.right) x hx
      exact ⟨u, cells, k1, k2, k3, k4, by omega⟩
end
end

theorem unks_covers (E : Env) (N : Nat) (fl : List Value) : Covers (E.unks N fl) N fl := fun j v hj => by
  rw [unks_new E fl (by omega), show N + j - N = j by omega]; exact hj

section
variable {B G : Nat} {w0 : Start} {E : Env} {S : St} {w w' : World} {P : Program}

/-- New unknowns, sorted; and lists among them that the call has made. -/
theorem Rel.newSyms (h : Rel B G w0 E S w) {srts : List Sort_} {fl : List Value} (hf : fitsL srts fl) : E.le (E.unks S.nsym fl) ∧ Rel B G w0 (E.unks S.nsym fl) (newSt S srts []) w := by
  have hle := unks_le E fl h.newσ
  have hlen := fitsL_length hf
  refine ⟨hle, ?_⟩
  exact
  { h with
    heap := fun id o hi => by obtain ⟨b, x, h1, h2, h3⟩ := h.heap id o hi; exact ⟨b, x, h1, h2, h3.mono hle⟩
    newσ := fun i hi => by
      have hi : S.nsym + srts.length ≤ i := hi
      rw [unks_new E fl (by omega), List.getElem?_eq_none (by omega)]
    sorts := fun i t hi => by
      simp only [newSt] at hi
      rw [enumS_find] at hi
      split at hi
      · rename_i hb
        obtain ⟨v, h1, h2⟩ := fitsL_get hf hi
        exact ⟨v, by rw [unks_new E fl hb.1]; exact h1, h2⟩
      · obtain ⟨v, h1, h2⟩ := h.sorts i t hi
        exact ⟨v, hle.σ _ _ h1, h2⟩
    pc := fun i b hi => hle.σ _ _ (h.pc i b hi)
    pins := fun p hp => hle.σ _ _ (h.pins p hp)
    ro := fun i xs hi => by obtain ⟨a, cap, h1, h2⟩ := h.ro i xs hi; exact ⟨a, cap, hle.σ _ _ h1, h2⟩
    ra := fun i u hi => by obtain ⟨a, h1, h2⟩ := h.ra i u hi; exact ⟨a, hle.σ _ _ h1, h2⟩
    facts := fun q hq => by obtain ⟨vs, v, h1, h2, h3⟩ := h.facts q hq; exact ⟨vs, v, SV.denL_mono hle _ _ h1, SV.den_mono hle _ _ h2, h3⟩
    lists := fun l hl => h.listsKeep hle (fun _ _ _ _ _ _ _ _ => rfl) l (by simpa [newSt] using hl)
    apart := fun l hl ho v hv c hc => by
      have hl : l ∈ S.lists := by simpa [newSt] using hl
      obtain ⟨h1, h2⟩ := h.apart l hl ho v (h.listAt hl hle hv) c hc
      exact ⟨h1, fun m hm hmo u hu => h2 m (by simpa [newSt] using hm) hmo u (h.listAt (by simpa [newSt] using hm) hle hu)⟩ }

/-- A list more, of the call's own. -/
theorem Rel.addList (h : Rel B G w0 E S w) {l : LEnt} {v : Value} {cells : Array Value} (hL : LRel B w0 E w l v cells) (ho : l.own = true) {D : Nat} (hD : ∀ b, v.ownBlock = some b → D ≤ b)
    (hρ : ∀ i b, E.ρ i = some b → b < D) (hls : ∀ m ∈ S.lists, m.own = true → ∀ u, E.σ m.s = some u → ∀ b, u.ownBlock = some b → b < D) : Rel B G w0 E { S with lists := l :: S.lists } w :=
  { h with
    lists := fun m hm => by
      simp only [List.mem_cons] at hm
      rcases hm with rfl | hm
      · exact ⟨v, cells, hL⟩
      · exact h.lists m hm
    apart := fun m hm hmo x hx b hb => by
      simp only [List.mem_cons] at hm
      rcases hm with rfl | hm
      · have := hL.s; rw [hx] at this; cases this
        have hbD := hD b hb
        refine ⟨fun id o _ he => by have := hρ id b he; omega, fun k hk hko u hu hub => ?_⟩
        simp only [List.mem_cons] at hk
        rcases hk with rfl | hk
        · rfl
        · have := hls k hk hko u hu b hub; omega
      · obtain ⟨h1, h2⟩ := h.apart m hm hmo x hx b hb
        refine ⟨h1, fun k hk hko u hu hub => ?_⟩
        simp only [List.mem_cons] at hk
        rcases hk with rfl | hk
        · have := hL.s; rw [hu] at this; cases this
          have := hls m hm hmo x hx b hb
          have := hD b hub
          omega
        · exact h2 k hk hko u hu hub }

theorem ListOut.lrel {e : TypeId} {lay : List Sort_} {v : Value} {cells : Array Value} {D : Nat} (h : ListOut D w e lay v cells) (hB : B ≤ D) {l : LEnt} (hs : E.σ l.s = some v) (hx : E.σ l.x = some (.agg cells)) (he : l.e = e) (hl : l.lay = lay) (ho : l.own = true) : LRel B w0 E w l v cells := by
  subst he hl
  refine { s := hs, x := hx, some_ := h.some_, few := h.few, whole := h.whole, lay := h.fit, own := fun _ => ?_, old := fun h => by rw [ho] at h; cases h }
  refine ⟨h.own.1, ?_⟩
  rcases h.own.2 with hn | ⟨g, cap, cur, h1, h2, rest⟩
  · exact .inl hn
  · exact .inr ⟨g, cap, cur, h1, by omega, rest⟩

theorem ListOut.block {e : TypeId} {lay : List Sort_} {v : Value} {cells : Array Value} {D : Nat} (h : ListOut D w e lay v cells) {b : Nat} (hb : v.ownBlock = some b) : D ≤ b := (h.own.lt b hb).1
end
end Go.Ev
