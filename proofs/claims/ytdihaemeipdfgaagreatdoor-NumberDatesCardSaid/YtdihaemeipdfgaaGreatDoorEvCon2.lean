/- Contracts of functions: flat values, a relation; and how the evaluator shows one. -/
import Derived.Test.YtdihaemeipdfgaaGreatDoorEvLeaf2
import Derived.Test.YtdihaemeipdfgaaGreatDoorEvTop
namespace Go.Ev
open Go.RowKit (Below)

/-- The shape of a value that is handed over. -/
inductive Sh where
  | sc (t : Sort_)
  | list (e : TypeId) (lay : List Sort_)
  | agg (l : List Sh)
  | tup (l : List Sh)

/-- A list of elements, read in a world. -/
structure ListIn (w : World) (lay : List Sort_) (v : Value) (cells : Array Value) : Prop where
  some_ : 0 < lay.length
  few : cells.size / lay.length ≤ 140737488355328
  whole : cells.size = cells.size / lay.length * lay.length
  fit : ∀ (j : Nat) (c : Value), cells[j]? = some c → ∃ t, lay[j % lay.length]? = some t ∧ t.fits c
  at_ : (v = .slice none 0 0 ∧ cells = #[]) ∨ ∃ a cap, v = .slice (some a) (cells.size / lay.length) cap ∧ a.block < w.heap.size ∧ ∀ (j : Nat) (c : Value), cells[j]? = some c → w.cell? (a.add j) = some c

/-- A list of elements that the call has made. -/
structure ListOut (B : Nat) (w : World) (e : TypeId) (lay : List Sort_) (v : Value) (cells : Array Value) : Prop where
  some_ : 0 < lay.length
  few : cells.size / lay.length ≤ 140737488355328
  whole : cells.size = cells.size / lay.length * lay.length
  fit : ∀ (j : Nat) (c : Value), cells[j]? = some c → ∃ t, lay[j % lay.length]? = some t ∧ t.fits c
  own : w.ownsRow B e lay.length v (cells.size / lay.length) cells.toList

abbrev ListR := TypeId → List Sort_ → Value → Array Value → Prop

mutual
/-- A value of that shape, and its flat values. -/
def Sh.rel (R : ListR) : Sh → Value → List Value → Prop
  | .sc t, v, fl => t.fits v ∧ fl = [v]
  | .list e lay, v, fl => ∃ cells, R e lay v cells ∧ v.oneCell' = true ∧ fl = [v, .agg cells]
  | .agg l, v, fl => ∃ vs : List Value, v = .agg vs.toArray ∧ relL R l vs fl
  | .tup l, v, fl => ∃ vs : List Value, v = .tuple vs.toArray ∧ relL R l vs fl
def relL (R : ListR) : List Sh → List Value → List Value → Prop
  | [], vs, fl => vs = [] ∧ fl = []
  | s :: r, vs, fl => ∃ v vs' f1 f2, vs = v :: vs' ∧ fl = f1 ++ f2 ∧ s.rel R v f1 ∧ relL R r vs' f2
end

abbrev inR (w : World) : ListR := fun _ lay v c => ListIn w lay v c
abbrev outR (B : Nat) (w : World) : ListR := fun e lay v c => ListOut B w e lay v c

/-- A contract. -/
structure Con where
  f : Nat
  ins : List Sh
  out : Sh
  id : String
  pre : List Value → Prop := fun _ => True
  asks : Bool := false
  rel : List Value → Prop

/-- It holds in the worlds of a kind. -/
def Con.ok (P : Program) (cond : World → Prop) (c : Con) : Prop :=
  entersOf P c.f = true ∧ ∀ (w : World) (vs fl : List Value), cond w → relL (inR w) c.ins vs fl → (c.asks = true → c.pre fl) →
    Calls P c.f vs.toArray w fun e w' => ∃ v fo, e = .returned v ∧ c.out.rel (outR w.heap.size w') v fo ∧ c.rel (fl ++ fo) ∧ Below w.heap.size w w'

/-! ### A caller -/
/-- Of the sort, an interval's too. -/
def fitsS2 (S : St) (x : SV) : Sort_ → Bool
  | .intIn k lo hi => match intOf S x with
    | some (k', lx, hx) => decide (k' = k) && ((match lo with | none => true | some a => leO (some a) lx) && (match hi with | none => true | some a => leO hx (some a)))
    | none => false
  | t => fitsS S x t

mutual
def matchSh (S : St) : Sh → SV → Option (List SV)
  | .sc t, x => bif fitsS2 S x t then some [x] else none
  | .list _ lay, x => match x with
    | .sym n => match listAt n S.lists with
      | some l => bif sameSos l.lay lay then some [.sym n, .sym l.x] else none
      | none => none
    | x => bif isNilS x && Nat.blt 0 lay.length then some [x, .val (.agg #[])] else none
  | .agg l, x => match aggOf x with
    | some xs => matchL S l xs
    | none => none
  | .tup l, x => match tupOf x with
    | some xs => matchL S l xs
    | none => none
def matchL (S : St) : List Sh → List SV → Option (List SV)
  | [], [] => some []
  | s :: r, x :: xs => match matchSh S s x, matchL S r xs with
    | some a, some b => some (a ++ b)
    | _, _ => none
  | _, _ => none
end

mutual
/-- New unknowns of the shape: what they are sorted as, what they are, and how they stand together. -/
def newSh : Sh → Nat → List Sort_ × SV × List SV
  | .sc t, n => ([t], .sym n, [.sym n])
  | .list _ _, n => ([.cell, .any], .sym n, [.sym n, .sym (n + 1)])
  | .agg l, n => let r := newL l n; (r.1, .agg r.2.1, r.2.2)
  | .tup l, n => let r := newL l n; (r.1, .tuple r.2.1, r.2.2)
def newL : List Sh → Nat → List Sort_ × List SV × List SV
  | [], _ => ([], [], [])
  | s :: r, n => let a := newSh s n; let b := newL r (n + a.1.length); (a.1 ++ b.1, a.2.1 :: b.2.1, a.2.2 ++ b.2.2)
end

mutual
/-- The lists among them. -/
def listsSh (own : Bool) : Sh → Nat → List LEnt
  | .sc _, _ => []
  | .list e lay, n => [{ s := n, x := n + 1, e := e, lay := lay, own := own }]
  | .agg l, n => listsL own l n
  | .tup l, n => listsL own l n
def listsL (own : Bool) : List Sh → Nat → List LEnt
  | [], _ => []
  | s :: r, n => listsSh own s n ++ listsL own r (n + (newSh s n).1.length)
end

def conOf (f : Nat) : List Con → Option Con
  | [] => none
  | c :: r => bif Nat.beq c.f f then some c else conOf f r

def newSt (S : St) (srts : List Sort_) (ls : List LEnt) : St := { S with nsym := S.nsym + srts.length, sorts := enumS S.nsym srts ++ S.sorts, lists := ls ++ S.lists }

def atMost1 : List LEnt → Bool
  | [] => true
  | [_] => true
  | _ => false

def conSumm (cons : List Con) (f : Nat) (args : List SV) (S : St) : Option (List (SV × St)) :=
  match conOf f cons with
  | none => none
  | some c => match matchL S c.ins args with
    | none => none
    | some flat =>
      let r := newSh c.out S.nsym
      let ls := listsSh true c.out S.nsym
      bif atMost1 ls then
        some ((r.2.1, addFact (newSt S r.1 ls) (.pred c.id c.rel) (flat ++ r.2.2) false) :: (bif c.asks then [(.val undef, addFact S (.npred (c.id ++ "Pre") c.pre) flat true)] else []))
      else none

/-! ### New unknowns -/
def Covers (E : Env) (n : Nat) (fl : List Value) : Prop := ∀ (j : Nat) (v : Value), fl[j]? = some v → E.σ (n + j) = some v

theorem Covers.left {E : Env} {n : Nat} {a b : List Value} (h : Covers E n (a ++ b)) : Covers E n a := fun j v hj => h j v (by
  rw [List.getElem?_append_left (List.getElem?_eq_some_iff.1 hj).1]; exact hj)
theorem Covers.right {E : Env} {n : Nat} {a b : List Value} (h : Covers E n (a ++ b)) : Covers E (n + a.length) b := fun j v hj => by
  have := h (a.length + j) v (by rw [List.getElem?_append_right (by omega), show a.length + j - a.length = j by omega]; exact hj)
  rwa [show n + a.length + j = n + (a.length + j) by omega]

theorem fitsL_append : ∀ {a b : List Sort_} {u v : List Value}, fitsL a u → fitsL b v → fitsL (a ++ b) (u ++ v)
  | [], _, [], _, _, h => h
  | _ :: _, _, _ :: _, _, h, k => ⟨h.1, fitsL_append h.2 k⟩
  | [], _, _ :: _, _, h, _ => h.elim
  | _ :: _, _, [], _, h, _ => h.elim

section
variable {R : ListR}

mutual
theorem newSh_fits : ∀ (s : Sh) (n : Nat) (v : Value) (fl : List Value), s.rel R v fl → fitsL (newSh s n).1 fl
  | .sc t, n, v, fl, h => by
    simp only [Sh.rel] at h
    obtain ⟨h1, rfl⟩ := h
    exact ⟨h1, trivial⟩
  | .list e lay, n, v, fl, h => by
    simp only [Sh.rel] at h
    obtain ⟨cells, _, h1, rfl⟩ := h
    exact ⟨h1, trivial, trivial⟩
  | .agg l, n, v, fl, h => by
    simp only [Sh.rel] at h
    obtain ⟨vs, _, h⟩ := h
    exact newL_fits l n vs fl h
  | .tup l, n, v, fl, h => by
    simp only [Sh.rel] at h
    obtain ⟨vs, _, h⟩ := h
    exact newL_fits l n vs fl h
theorem newL_fits : ∀ (l : List Sh) (n : Nat) (vs fl : List Value), relL R l vs fl → fitsL (newL l n).1 fl
  | [], n, vs, fl, h => by
    simp only [relL] at h
    obtain ⟨_, rfl⟩ := h
    exact trivial
  | s :: r, n, vs, fl, h => by
    simp only [relL] at h
    obtain ⟨v, vs', f1, f2, rfl, rfl, h1, h2⟩ := h
    exact fitsL_append (newSh_fits s n v f1 h1) (newL_fits r _ vs' f2 h2)
end

mutual
theorem newSh_den {E : Env} : ∀ (s : Sh) (n : Nat) (v : Value) (fl : List Value), s.rel R v fl → Covers E n fl → (newSh s n).2.1.den E = some v ∧ SV.denL E (newSh s n).2.2 = some fl
  | .sc t, n, v, fl, h, hc => by
    simp only [Sh.rel] at h
    obtain ⟨h1, rfl⟩ := h
    have : (SV.sym n).den E = some v := by simp only [SV.den]; exact hc 0 v rfl
    exact ⟨this, denL_mk this (r := []) rfl⟩
  | .list e lay, n, v, fl, h, hc => by
    simp only [Sh.rel] at h
    obtain ⟨cells, _, h1, rfl⟩ := h
    have h0 : (SV.sym n).den E = some v := by simp only [SV.den]; exact hc 0 v rfl
    have h1 : (SV.sym (n + 1)).den E = some (.agg cells) := by simp only [SV.den]; exact hc 1 _ rfl
    exact ⟨h0, denL_mk h0 (denL_mk h1 (r := []) rfl)⟩
  | .agg l, n, v, fl, h, hc => by
    simp only [Sh.rel] at h
    obtain ⟨vs, rfl, h⟩ := h
    obtain ⟨h1, h2⟩ := newL_den l n vs fl h hc
    exact ⟨by simp only [newSh, SV.den, h1], h2⟩
  | .tup l, n, v, fl, h, hc => by
    simp only [Sh.rel] at h
    obtain ⟨vs, rfl, h⟩ := h
    obtain ⟨h1, h2⟩ := newL_den l n vs fl h hc
    exact ⟨by simp only [newSh, SV.den, h1], h2⟩
theorem newL_den {E : Env} : ∀ (l : List Sh) (n : Nat) (vs fl : List Value), relL R l vs fl → Covers E n fl → SV.denL E (newL l n).2.1 = some vs ∧ SV.denL E (newL l n).2.2 = some fl
  | [], n, vs, fl, h, hc => by
    simp only [relL] at h
    obtain ⟨rfl, rfl⟩ := h
    exact ⟨rfl, rfl⟩
  | s :: r, n, vs, fl, h, hc => by
    simp only [relL] at h
    obtain ⟨v, vs', f1, f2, rfl, rfl, h1, h2⟩ := h
    obtain ⟨k1, k2⟩ := newSh_den s n v f1 h1 hc.left
    have hlen : (newSh s n).1.length = f1.length := fitsL_length (newSh_fits s n v f1 h1)
    obtain ⟨k3, k4⟩ := newL_den r (n + (newSh s n).1.length) vs' f2 h2 (by rw [hlen]; exact hc.right)
    exact ⟨denL_mk k1 k3, denL_append k2 k4⟩
end

mutual
/-- The lists among them, each related. -/
theorem listsSh_rel {E : Env} {own : Bool} : ∀ (s : Sh) (n : Nat) (v : Value) (fl : List Value), s.rel R v fl → Covers E n fl → ∀ l ∈ listsSh own s n, ∃ v cells, E.σ l.s = some v ∧ E.σ l.x = some (.agg cells) ∧ R l.e l.lay v cells ∧ l.own = own ∧ n ≤ l.s
  | .sc t, n, v, fl, h, hc, l, hl => by simp [listsSh] at hl
  | .list e lay, n, v, fl, h, hc, l, hl => by
    simp only [Sh.rel] at h
    obtain ⟨cells, h0, h1, rfl⟩ := h
    simp only [listsSh, List.mem_singleton] at hl; subst hl
    exact ⟨v, cells, hc 0 v rfl, hc 1 _ rfl, h0, rfl, Nat.le_refl _⟩
  | .agg l, n, v, fl, h, hc, x, hx => by
    simp only [Sh.rel] at h
    obtain ⟨vs, rfl, h⟩ := h
    exact listsL_rel l n vs fl h hc x hx
  | .tup l, n, v, fl, h, hc, x, hx => by
    simp only [Sh.rel] at h
    obtain ⟨vs, rfl, h⟩ := h
    exact listsL_rel l n vs fl h hc x hx
theorem listsL_rel {E : Env} {own : Bool} : ∀ (l : List Sh) (n : Nat) (vs fl : List Value), relL R l vs fl → Covers E n fl → ∀ x ∈ listsL own l n, ∃ v cells, E.σ x.s = some v ∧ E.σ x.x = some (.agg cells) ∧ R x.e x.lay v cells ∧ x.own = own ∧ n ≤ x.s
  | [], n, vs, fl, h, hc, x, hx => by simp [listsL] at hx
  | s :: r, n, vs, fl, h, hc, x, hx => by
    simp only [relL] at h
    obtain ⟨v, vs', f1, f2, rfl, rfl, h1, h2⟩ := h
    simp only [listsL, List.mem_append] at hx
    rcases hx with hx | hx
    · exact listsSh_rel s n v f1 h1 hc.left x hx
    · have hlen : (newSh s n).1.length = f1.length := fitsL_length (newSh_fits s n v f1 h1)
      obtain ⟨u, cells, k1, k2, k3, k4, k5⟩ := listsL_rel r (n + (newSh s n).1.length) vs' f2 h2 (by rw [hlen]; exact hc.right) x hx
      exact ⟨u, cells, k1, k2, k3, k4, by omega⟩
end
end

theorem unks_covers (E : Env) (N : Nat) (fl : List Value) : Covers (E.unks N fl) N fl := fun j v hj => by
  rw [unks_new E fl (by omega), show N + j - N = j by omega]; exact hj

section
variable {B G : Nat} {w0 : Start} {E : Env} {S : St} {w w' : World} {P : Program}

/-- New unknowns, sorted; and lists among them that the call has made. -/
theorem Rel.newSyms (h : Rel B G w0 E S w) {srts : List Sort_} {fl : List Value} (hf : fitsL srts fl) : E.le (E.unks S.nsym fl) ∧ Rel B G w0 (E.unks S.nsym fl) (newSt S srts []) w := by
  have hle := unks_le E fl h.newσ
  have hlen := fitsL_length hf
  refine ⟨hle, ?_⟩
  exact
  { h with
    heap := fun id o hi => by obtain ⟨b, x, h1, h2, h3⟩ := h.heap id o hi; exact ⟨b, x, h1, h2, h3.mono hle⟩
    newσ := fun i hi => by
      have hi : S.nsym + srts.length ≤ i := hi
      rw [unks_new E fl (by omega), List.getElem?_eq_none (by omega)]
    sorts := fun i t hi => by
      simp only [newSt] at hi
      rw [enumS_find] at hi
      split at hi
      · rename_i hb
        obtain ⟨v, h1, h2⟩ := fitsL_get hf hi
        exact ⟨v, by rw [unks_new E fl hb.1]; exact h1, h2⟩
      · obtain ⟨v, h1, h2⟩ := h.sorts i t hi
        exact ⟨v, hle.σ _ _ h1, h2⟩
    pc := fun i b hi => hle.σ _ _ (h.pc i b hi)
    pins := fun p hp => hle.σ _ _ (h.pins p hp)
    ro := fun i xs hi => by obtain ⟨a, cap, h1, h2⟩ := h.ro i xs hi; exact ⟨a, cap, hle.σ _ _ h1, h2⟩
    ra := fun i u hi => by obtain ⟨a, h1, h2⟩ := h.ra i u hi; exact ⟨a, hle.σ _ _ h1, h2⟩
    facts := fun q hq => by obtain ⟨vs, v, h1, h2, h3⟩ := h.facts q hq; exact ⟨vs, v, SV.denL_mono hle _ _ h1, SV.den_mono hle _ _ h2, h3⟩
    lists := fun l hl => h.listsKeep hle (fun _ _ _ _ _ _ _ _ => rfl) l (by simpa [newSt] using hl)
    apart := fun l hl ho v hv c hc => by
      have hl : l ∈ S.lists := by simpa [newSt] using hl
      obtain ⟨h1, h2⟩ := h.apart l hl ho v (h.listAt hl hle hv) c hc
      exact ⟨h1, fun m hm hmo u hu => h2 m (by simpa [newSt] using hm) hmo u (h.listAt (by simpa [newSt] using hm) hle hu)⟩ }

/-- A list more, of the call's own. -/
theorem Rel.addList (h : Rel B G w0 E S w) {l : LEnt} {v : Value} {cells : Array Value} (hL : LRel B w0 E w l v cells) (ho : l.own = true) {D : Nat} (hD : ∀ b, v.ownBlock = some b → D ≤ b)
    (hρ : ∀ i b, E.ρ i = some b → b < D) (hls : ∀ m ∈ S.lists, m.own = true → ∀ u, E.σ m.s = some u → ∀ b, u.ownBlock = some b → b < D) : Rel B G w0 E { S with lists := l :: S.lists } w :=
  { h with
    lists := fun m hm => by
      simp only [List.mem_cons] at hm
      rcases hm with rfl | hm
      · exact ⟨v, cells, hL⟩
      · exact h.lists m hm
    apart := fun m hm hmo x hx b hb => by
      simp only [List.mem_cons] at hm
      rcases hm with rfl | hm
      · have := hL.s; rw [hx] at this; cases this
        have hbD := hD b hb
        refine ⟨fun id o _ he => by have := hρ id b he; omega, fun k hk hko u hu hub => ?_⟩
        simp only [List.mem_cons] at hk
        rcases hk with rfl | hk
        · rfl
        · have := hls k hk hko u hu b hub; omega
      · obtain ⟨h1, h2⟩ := h.apart m hm hmo x hx b hb
        refine ⟨h1, fun k hk hko u hu hub => ?_⟩
        simp only [List.mem_cons] at hk
        rcases hk with rfl | hk
        · have := hL.s; rw [hu] at this; cases this
          have := hls m hm hmo x hx b hb
          have := hD b hub
          omega
        · exact h2 k hk hko u hu hub }

theorem ListOut.lrel {e : TypeId} {lay : List Sort_} {v : Value} {cells : Array Value} {D : Nat} (h : ListOut D w e lay v cells) (hB : B ≤ D) {l : LEnt} (hs : E.σ l.s = some v) (hx : E.σ l.x = some (.agg cells)) (he : l.e = e) (hl : l.lay = lay) (ho : l.own = true) : LRel B w0 E w l v cells := by
  subst he hl
  refine { s := hs, x := hx, some_ := h.some_, few := h.few, whole := h.whole, lay := h.fit, own := fun _ => ?_, old := fun h => by rw [ho] at h; cases h }
  refine ⟨h.own.1, ?_⟩
  rcases h.own.2 with hn | ⟨g, cap, cur, h1, h2, rest⟩
  · exact .inl hn
  · exact .inr ⟨g, cap, cur, h1, by omega, rest⟩

theorem ListOut.block {e : TypeId} {lay : List Sort_} {v : Value} {cells : Array Value} {D : Nat} (h : ListOut D w e lay v cells) {b : Nat} (hb : v.ownBlock = some b) : D ≤ b := (h.own.lt b hb).1
end
end Go.Ev

namespace Go.Ev
open Go.RowKit (Below)

section
variable {B G : Nat} {w0 : Start} {E : Env} {S : St} {w w' : World} {P : Program}

theorem fitsS2_ok (hr : ERel E S) {x : SV} {t : Sort_} {v : Value} (h : fitsS2 S x t = true) (hx : x.den E = some v) : t.fits v := by
  cases t with
  | intIn k lo hi =>
    simp only [fitsS2] at h
    split at h
    · rename_i k' lx ux hi'
      simp only [Bool.and_eq_true, decide_eq_true_eq] at h
      obtain ⟨rfl, h1, h2⟩ := h
      obtain ⟨n, rfl, e1, e2⟩ := intOf_ok hr hi' hx
      refine ⟨n, rfl, fun a ha => ?_, fun a ha => ?_⟩
      · subst ha
        obtain ⟨p, q, k1, k2, k3⟩ := leO_ok h1
        cases k1
        have := e1 q k2
        omega
      · subst ha
        obtain ⟨p, q, k1, k2, k3⟩ := leO_ok h2
        cases k2
        have := e2 p k1
        omega
    · cases h
  | _ => exact fitsS_ok hr (by simpa only [fitsS2] using h) hx

theorem sameSos_ne {a b : List Sort_} (h : sameSos a b = true) : a = b := sameSos_eq h

theorem list_in (hr : Rel B G w0 E S w) {l : LEnt} {v : Value} {cells : Array Value} (hL : LRel B w0 E w l v cells) : ListIn w l.lay v cells ∧ v.oneCell' = true := by
  cases ho : l.own with
  | true =>
    have hown := hL.own ho
    refine ⟨{ some_ := hL.some_, few := hL.few, whole := hL.whole, fit := hL.lay, at_ := ?_ }, ownsRow_one hown⟩
    rcases hown.2 with ⟨rfl, hn⟩ | ⟨g, cap, cur, hv, h1, h2, h3⟩
    · refine .inl ⟨rfl, ?_⟩
      have := hL.whole
      rw [hn, Nat.zero_mul] at this
      exact Array.eq_empty_of_size_eq_zero this
    · refine .inr ⟨⟨g, 0, none⟩, cap, hv, (Array.getElem?_eq_some_iff.1 h2).1, fun j c hc => ?_⟩
      exact hown.cells (g := g) (by rw [hv]; rfl) j c (by simpa using hc)
  | false =>
    have hbase : B ≤ w.heap.size := hr.base
    rcases hL.old ho with ⟨rfl, rfl⟩ | ⟨a, cap, hv, hb, hc⟩
    · exact ⟨{ some_ := hL.some_, few := hL.few, whole := hL.whole, fit := hL.lay, at_ := .inl ⟨rfl, rfl⟩ }, rfl⟩
    · refine ⟨{ some_ := hL.some_, few := hL.few, whole := hL.whole, fit := hL.lay, at_ := .inr ⟨a, cap, hv, by omega, fun j c hj => ?_⟩ }, by rw [hv]; rfl⟩
      rw [← hc j c hj]
      refine World.cell?_of_block (hr.below.block _ ?_)
      rw [addr_add_block]; exact hb

mutual
theorem matchSh_ok (hr : Rel B G w0 E S w) : ∀ (s : Sh) (x : SV) (flat : List SV) (v : Value), matchSh S s x = some flat → x.den E = some v → ∃ fl, SV.denL E flat = some fl ∧ s.rel (inR w) v fl
  | .sc t, x, flat, v, h, hx => by
    simp only [matchSh] at h
    cases hf : fitsS2 S x t with
    | false => rw [hf] at h; cases h
    | true =>
      rw [hf] at h
      simp only [cond_true, Option.some.injEq] at h; subst h
      exact ⟨[v], denL_mk hx (r := []) rfl, by simp only [Sh.rel]; exact ⟨fitsS2_ok hr.env hf hx, trivial⟩⟩
  | .list e lay, x, flat, v, h, hx => by
    simp only [matchSh] at h
    split at h
    · rename_i n
      split at h
      · rename_i l hl
        cases hs : sameSos l.lay lay with
        | false => rw [hs] at h; cases h
        | true =>
          rw [hs] at h
          simp only [cond_true, Option.some.injEq] at h; subst h
          have hs := sameSos_eq hs
          subst hs
          obtain ⟨hm, rfl⟩ := listAt_mem hl
          obtain ⟨u, cells, hL⟩ := hr.lists l hm
          have hv : u = v := by simp only [SV.den] at hx; rw [hL.s] at hx; exact Option.some.inj hx
          subst hv
          obtain ⟨k1, k2⟩ := list_in hr hL
          exact ⟨[u, .agg cells], denL_mk hx (denL_mk (x := .sym l.x) (by simp only [SV.den]; exact hL.x) (r := []) rfl), by simp only [Sh.rel]; exact ⟨cells, k1, k2, rfl⟩⟩
      · cases h
    · rename_i x' _
      cases hs : isNilS x && Nat.blt 0 lay.length with
      | false => rw [hs] at h; cases h
      | true =>
        rw [hs] at h
        simp only [cond_true, Option.some.injEq] at h; subst h
        simp only [Bool.and_eq_true] at hs
        have h1 := isNilS_eq hs.1
        have h2 : 0 < lay.length := Nat.le_of_ble_eq_true hs.2
        subst h1
        simp only [SV.den, Option.some.injEq] at hx; subst hx
        exact ⟨[.slice none 0 0, .agg #[]], denL_mk (x := .val (.slice none 0 0)) (by simp only [SV.den]) (denL_mk (x := .val (.agg #[])) (v := .agg #[]) (by simp only [SV.den]) (r := []) rfl), by
          simp only [Sh.rel]
          exact ⟨#[], { some_ := h2, few := by simp, whole := by simp, fit := fun j c hj => by simp at hj, at_ := .inl ⟨rfl, rfl⟩ }, rfl, rfl⟩⟩
  | .agg l, x, flat, v, h, hx => by
    simp only [matchSh] at h
    split at h
    · rename_i xs hxs
      obtain ⟨vs, h1, rfl⟩ := aggOf_den hxs hx
      obtain ⟨fl, h2, h3⟩ := matchL_ok hr l xs flat vs h h1
      exact ⟨fl, h2, by simp only [Sh.rel]; exact ⟨vs, rfl, h3⟩⟩
    · cases h
  | .tup l, x, flat, v, h, hx => by
    simp only [matchSh] at h
    split at h
    · rename_i xs hxs
      obtain ⟨vs, h1, rfl⟩ := tupOf_den hxs hx
      obtain ⟨fl, h2, h3⟩ := matchL_ok hr l xs flat vs h h1
      exact ⟨fl, h2, by simp only [Sh.rel]; exact ⟨vs, rfl, h3⟩⟩
    · cases h
theorem matchL_ok (hr : Rel B G w0 E S w) : ∀ (l : List Sh) (xs flat : List SV) (vs : List Value), matchL S l xs = some flat → SV.denL E xs = some vs → ∃ fl, SV.denL E flat = some fl ∧ relL (inR w) l vs fl
  | [], [], flat, vs, h, hv => by
    simp only [matchL, Option.some.injEq] at h; subst h
    simp only [SV.denL, Option.some.injEq] at hv; subst hv
    exact ⟨[], rfl, by simp only [relL]; exact ⟨trivial, trivial⟩⟩
  | s :: r, x :: xs, flat, vs, h, hv => by
    simp only [matchL] at h
    split at h
    · rename_i a b ha hb
      simp only [Option.some.injEq] at h; subst h
      obtain ⟨v, vs', h1, h2, rfl⟩ := denL_cons hv
      obtain ⟨f1, k1, k2⟩ := matchSh_ok hr s x a v ha h1
      obtain ⟨f2, k3, k4⟩ := matchL_ok hr r xs b vs' hb h2
      exact ⟨f1 ++ f2, denL_append k1 k3, by simp only [relL]; exact ⟨v, vs', f1, f2, rfl, rfl, k2, k4⟩⟩
    · cases h
  | [], _ :: _, _, _, h, _ => by simp [matchL] at h
  | _ :: _, [], _, _, h, _ => by simp [matchL] at h
end

theorem conOf_mem {f : Nat} : ∀ {l : List Con} {c : Con}, conOf f l = some c → c ∈ l ∧ c.f = f
  | [], c, h => by cases h
  | x :: r, c, h => by
    simp only [conOf] at h
    cases e : Nat.beq x.f f with
    | true =>
      rw [e] at h
      simp only [cond_true, Option.some.injEq] at h; subst h
      exact ⟨List.mem_cons_self, Nat.eq_of_beq_eq_true e⟩
    | false =>
      rw [e] at h
      obtain ⟨h1, h2⟩ := conOf_mem h
      exact ⟨List.mem_cons_of_mem _ h1, h2⟩

theorem atMost1_cases {l : List LEnt} (h : atMost1 l = true) : l = [] ∨ ∃ x, l = [x] := by
  unfold atMost1 at h
  split at h
  · exact .inl rfl
  · exact .inr ⟨_, rfl⟩
  · cases h

theorem conSumm_ok {cond : World → Prop} (hcond : ∀ w, Below B w0.w w → cond w) {cons : List Con} (hc : ∀ c ∈ cons, c.ok P cond) : SummOK B G w0 P (conSumm cons) := by
  intro f args S rs h
  unfold conSumm at h
  split at h
  · cases h
  rename_i c hcf
  split at h
  · cases h
  rename_i flat hflat
  simp only at h
  cases h1 : atMost1 (listsSh true c.out S.nsym) with
  | false => rw [h1] at h; cases h
  | true =>
  rw [h1] at h
  simp only [cond_true, Option.some.injEq] at h; subst h
  obtain ⟨hm, rfl⟩ := conOf_mem hcf
  obtain ⟨hent, hcon⟩ := hc c hm
  refine ⟨fun as w => entersOf_ok hent as w, fun E vs w R hr hvs hR hbad => ?_⟩
  obtain ⟨fl, hfl, hin⟩ := matchL_ok hr c.ins args flat vs hflat hvs
  by_cases hpre : c.asks = true → c.pre fl
  case neg =>
    have hpre : c.asks = true ∧ ¬ c.pre fl := by
      by_cases h : c.asks = true
      · exact ⟨h, fun hp => hpre fun _ => hp⟩
      · exact absurd (fun h' => absurd h' h) hpre
    refine (hbad (.val undef, addFact S (.npred (c.id ++ "Pre") c.pre) flat true) ?_ rfl E w E.le_refl (hr.addFact (op := .npred (c.id ++ "Pre") c.pre) hfl hpre.2 true)).elim
    rw [hpre.1]
    exact List.mem_cons_of_mem _ List.mem_cons_self
  refine (hcon w vs fl (hcond w hr.below) hin hpre).mono fun e w' ⟨v, fo, he, hout, hrel, hb⟩ => ?_
  subst he
  have hr' := hr.after hb
  have hfit := newSh_fits c.out S.nsym v fo hout
  obtain ⟨hle, hr2⟩ := hr'.newSyms hfit
  have hcov := unks_covers E S.nsym fo
  obtain ⟨d1, d2⟩ := newSh_den c.out S.nsym v fo hout hcov
  have hlists := listsSh_rel (own := true) c.out S.nsym v fo hout hcov
  have key : Rel B G w0 (E.unks S.nsym fo) (newSt S (newSh c.out S.nsym).1 (listsSh true c.out S.nsym)) w' := by
    rcases atMost1_cases h1 with e | ⟨l, e⟩
    · rw [e]; exact hr2
    · rw [e]
      obtain ⟨u, cells, k1, k2, k3, k4, _⟩ := hlists l (by rw [e]; exact List.mem_cons_self)
      refine hr2.addList (l := l) (v := u) (cells := cells) (D := w.heap.size) (ListOut.lrel k3 hr.base k1 k2 rfl rfl k4) k4 (fun b hb => ListOut.block k3 hb) (fun i b hi => hr.dom i b hi) (fun m hm hmo x hx b hb => ?_)
      have hm' : m ∈ S.lists := by simpa [newSt] using hm
      obtain ⟨y, cs, hL⟩ := hr.lists m hm'
      have hx' := hr.listAt hm' hle hx
      have := hL.s; rw [hx'] at this; cases this
      exact (hL.lt hmo hb).2
  refine hR _ List.mem_cons_self (E.unks S.nsym fo) v w' hle (key.addFact (op := .pred c.id c.rel) (denL_append (SV.denL_mono hle _ _ hfl) d2) hrel false) d1

/-! ### The function itself -/
mutual
def outSh (S : St) : Sh → SV → Option (List SV)
  | .sc t, x => bif fitsS2 S x t then some [x] else none
  | .list e lay, x => match x with
    | .sym n => match listAt n S.lists with
      | some l => bif l.own && (Nat.beq l.e e && sameSos l.lay lay) then some [.sym n, .sym l.x] else none
      | none => none
    | x => bif isNilS x && Nat.blt 0 lay.length then some [x, .val (.agg #[])] else none
  | .agg l, x => match aggOf x with
    | some xs => outL S l xs
    | none => none
  | .tup l, x => match tupOf x with
    | some xs => outL S l xs
    | none => none
def outL (S : St) : List Sh → List SV → Option (List SV)
  | [], [] => some []
  | s :: r, x :: xs => match outSh S s x, outL S r xs with
    | some a, some b => some (a ++ b)
    | _, _ => none
  | _, _ => none
end

mutual
theorem outSh_ok (hr : Rel B G w0 E S w) : ∀ (s : Sh) (x : SV) (flat : List SV) (v : Value), outSh S s x = some flat → x.den E = some v → ∃ fl, SV.denL E flat = some fl ∧ s.rel (outR B w) v fl
  | .sc t, x, flat, v, h, hx => by
    simp only [outSh] at h
    cases hf : fitsS2 S x t with
    | false => rw [hf] at h; cases h
    | true =>
      rw [hf] at h
      simp only [cond_true, Option.some.injEq] at h; subst h
      exact ⟨[v], denL_mk hx (r := []) rfl, by simp only [Sh.rel]; exact ⟨fitsS2_ok hr.env hf hx, trivial⟩⟩
  | .list e lay, x, flat, v, h, hx => by
    simp only [outSh] at h
    split at h
    · rename_i n
      split at h
      · rename_i l hl
        cases hs : l.own && (Nat.beq l.e e && sameSos l.lay lay) with
        | false => rw [hs] at h; cases h
        | true =>
          rw [hs] at h
          simp only [cond_true, Option.some.injEq] at h; subst h
          simp only [Bool.and_eq_true] at hs
          obtain ⟨ho, he, hs⟩ := hs
          have hs := sameSos_eq hs
          have he := Nat.eq_of_beq_eq_true he
          subst hs he
          obtain ⟨hm, rfl⟩ := listAt_mem hl
          obtain ⟨u, cells, hL⟩ := hr.lists l hm
          have hv : u = v := by simp only [SV.den] at hx; rw [hL.s] at hx; exact Option.some.inj hx
          subst hv
          exact ⟨[u, .agg cells], denL_mk hx (denL_mk (x := .sym l.x) (by simp only [SV.den]; exact hL.x) (r := []) rfl), by
            simp only [Sh.rel]
            exact ⟨cells, { some_ := hL.some_, few := hL.few, whole := hL.whole, fit := hL.lay, own := hL.own ho }, ownsRow_one (hL.own ho), rfl⟩⟩
      · cases h
    · cases hs : isNilS x && Nat.blt 0 lay.length with
      | false => rw [hs] at h; cases h
      | true =>
        rw [hs] at h
        simp only [cond_true, Option.some.injEq] at h; subst h
        simp only [Bool.and_eq_true] at hs
        have h1 := isNilS_eq hs.1
        have h2 : 0 < lay.length := Nat.le_of_ble_eq_true hs.2
        subst h1
        simp only [SV.den, Option.some.injEq] at hx; subst hx
        exact ⟨[.slice none 0 0, .agg #[]], denL_mk (x := .val (.slice none 0 0)) (by simp only [SV.den]) (denL_mk (x := .val (.agg #[])) (v := .agg #[]) (by simp only [SV.den]) (r := []) rfl), by
          simp only [Sh.rel]
          exact ⟨#[], { some_ := h2, few := by simp, whole := by simp, fit := fun j c hj => by simp at hj, own := by simpa using World.ownsRow_nil w B e lay.length }, rfl, rfl⟩⟩
  | .agg l, x, flat, v, h, hx => by
    simp only [outSh] at h
    split at h
    · rename_i xs hxs
      obtain ⟨vs, h1, rfl⟩ := aggOf_den hxs hx
      obtain ⟨fl, h2, h3⟩ := outL_ok hr l xs flat vs h h1
      exact ⟨fl, h2, by simp only [Sh.rel]; exact ⟨vs, rfl, h3⟩⟩
    · cases h
  | .tup l, x, flat, v, h, hx => by
    simp only [outSh] at h
    split at h
    · rename_i xs hxs
      obtain ⟨vs, h1, rfl⟩ := tupOf_den hxs hx
      obtain ⟨fl, h2, h3⟩ := outL_ok hr l xs flat vs h h1
      exact ⟨fl, h2, by simp only [Sh.rel]; exact ⟨vs, rfl, h3⟩⟩
    · cases h
theorem outL_ok (hr : Rel B G w0 E S w) : ∀ (l : List Sh) (xs flat : List SV) (vs : List Value), outL S l xs = some flat → SV.denL E xs = some vs → ∃ fl, SV.denL E flat = some fl ∧ relL (outR B w) l vs fl
  | [], [], flat, vs, h, hv => by
    simp only [outL, Option.some.injEq] at h; subst h
    simp only [SV.denL, Option.some.injEq] at hv; subst hv
    exact ⟨[], rfl, by simp only [relL]; exact ⟨trivial, trivial⟩⟩
  | s :: r, x :: xs, flat, vs, h, hv => by
    simp only [outL] at h
    split at h
    · rename_i a b ha hb
      simp only [Option.some.injEq] at h; subst h
      obtain ⟨v, vs', h1, h2, rfl⟩ := denL_cons hv
      obtain ⟨f1, k1, k2⟩ := outSh_ok hr s x a v ha h1
      obtain ⟨f2, k3, k4⟩ := outL_ok hr r xs b vs' hb h2
      exact ⟨f1 ++ f2, denL_append k1 k3, by simp only [relL]; exact ⟨v, vs', f1, f2, rfl, rfl, k2, k4⟩⟩
    · cases h
  | [], _ :: _, _, _, h, _ => by simp [outL] at h
  | _ :: _, [], _, _, h, _ => by simp [outL] at h
end

def Con.args (c : Con) : List SV := (newL c.ins 0).2.1
def Con.flat (c : Con) : List SV := (newL c.ins 0).2.2
def Con.st (c : Con) : St :=
  let S := newSt none0 (newL c.ins 0).1 (listsL false c.ins 0)
  bif c.asks then addFact S (.pred (c.id ++ "Pre") c.pre) c.flat false else S

/-- What is to be shown of an outcome. -/
def leafGoal (c : Con) (σ : Nat → Value) (o : Out) : Prop :=
  imps (o.st.says σ) (bif o.st.bad then False else match o.kind with
    | .val sv => match outSh o.st c.out sv with
      | some fo => bif purL c.flat && purL fo then c.rel (atL σ c.flat ++ atL σ fo) else False
      | none => False
    | _ => False)

def goalsL (c : Con) : List Out → Prop
  | [] => True
  | o :: r => (∀ σ, leafGoal c σ o) ∧ goalsL c r

def Con.goals (c : Con) (C : Cfg) (K : List (Nat × Nat × LSpec)) (n : Nat) : Prop :=
  match evaluateK C K n (.call c.f c.args c.st) with
  | some outs => goalsL c outs
  | none => False

theorem goalsL_mem {c : Con} : ∀ {l : List Out}, goalsL c l → ∀ o ∈ l, ∀ σ, leafGoal c σ o
  | _ :: _, h, _, .head _ => h.1
  | _ :: _, h, o, .tail _ ho => goalsL_mem h.2 o ho

theorem lists_old {c : Con} {w : World} {vs fl : List Value} (h : relL (inR w) c.ins vs fl) : ∀ l ∈ listsL false c.ins 0, ∃ v cells, LRel w.heap.size ⟨w, [], P⟩ (env0.unks 0 fl) w l v cells ∧ l.own = false := fun l hl => by
  obtain ⟨v, cells, k1, k2, k3, k4, _⟩ := listsL_rel c.ins 0 vs fl h (unks_covers env0 0 fl) l hl
  have k3 : ListIn w l.lay v cells := k3
  refine ⟨v, cells, { s := k1, x := k2, some_ := k3.some_, few := k3.few, whole := k3.whole, lay := k3.fit, own := fun h => (by rw [k4] at h; cases h), old := fun _ => ?_ }, k4⟩
  rcases k3.at_ with h | ⟨a, cap, e1, e2, e3⟩
  · exact .inl h
  · exact .inr ⟨a, cap, e1, e2, e3⟩

theorem start_rel {c : Con} {w : World} {vs fl : List Value} (h : relL (inR w) c.ins vs fl) (hp : c.asks = true → c.pre fl) :
    Rel w.heap.size 0 ⟨w, [], P⟩ (env0.unks 0 fl) c.st w ∧ SV.denL (env0.unks 0 fl) c.args = some vs ∧ SV.denL (env0.unks 0 fl) c.flat = some fl := by
  have hfit := newL_fits c.ins 0 vs fl h
  obtain ⟨_, hr⟩ := (rel0 P w).newSyms hfit
  obtain ⟨d1, d2⟩ := newL_den c.ins 0 vs fl h (unks_covers env0 0 fl)
  have hls := lists_old (P := P) h
  have key : Rel w.heap.size 0 ⟨w, [], P⟩ (env0.unks 0 fl) (newSt none0 (newL c.ins 0).1 (listsL false c.ins 0)) w :=
    { hr with
      lists := fun l hl => by
        have hl : l ∈ listsL false c.ins 0 := by simpa [newSt, none0] using hl
        obtain ⟨v, cells, k, _⟩ := hls l hl
        exact ⟨v, cells, k⟩
      apart := fun l hl ho => by
        have hl : l ∈ listsL false c.ins 0 := by simpa [newSt, none0] using hl
        obtain ⟨v, cells, _, k⟩ := hls l hl
        rw [k] at ho; cases ho }
  refine ⟨?_, d1, d2⟩
  unfold Con.st
  cases ha : c.asks with
  | false => exact key
  | true => exact key.addFact (op := .pred (c.id ++ "Pre") c.pre) d2 (hp ha) false

/-- A contract, out of its goals. -/
theorem con_ok {c : Con} {C : Cfg} {K : List (Nat × Nat × LSpec)} {n : Nat} (hm : P.follows .mixedOrders = true) (he : entersOf P c.f = true) {cond : World → Prop} (hC : ∀ w : World, cond w → CfgOK w.heap.size 0 ⟨w, [], P⟩ P C) (h : c.goals C K n) : c.ok P cond := by
  refine ⟨he, fun w vs fl hw hin hp => ?_⟩
  unfold Con.goals at h
  split at h
  case h_2 => exact h.elim
  rename_i outs ho
  obtain ⟨hr, h1, h2⟩ := start_rel (P := P) hin hp
  have hg := goalsL_mem h
  refine evaluateK_ok (hC w hw) hm K n _ _ ho _ vs w _ hr h1 (fun o hmem F sv v w' k1 k2 k3 k4 => ?_) (fun o hmem hb F w' k1 k2 => ?_)
  · have g := imps_mp (hg o hmem F.val) (says_ok k2)
    cases hb : o.st.bad with
    | true => rw [hb] at g; exact g.elim
    | false =>
      rw [hb, k3] at g
      simp only [cond_false] at g
      split at g
      · rename_i fo hfo
        cases hpu : purL c.flat && purL fo with
        | false => rw [hpu] at g; exact g.elim
        | true =>
          rw [hpu] at g
          simp only [Bool.and_eq_true] at hpu
          simp only [cond_true] at g
          obtain ⟨fl', e1, e2⟩ := outSh_ok k2 c.out sv fo v hfo k4
          rw [atL_den _ _ hpu.1 (SV.denL_mono k1 _ _ h2), atL_den _ _ hpu.2 e1] at g
          exact ⟨v, fl', rfl, e2, g, k2.below⟩
      · exact g.elim
  · have g := imps_mp (hg o hmem F.val) (says_ok k2)
    rw [hb] at g
    exact g.elim

def cfgC (P : Program) (enters : Nat → Bool) (X : List (Nat × ExtOp)) (cons : List Con) : Cfg := { cfg P 0 enters X with summ := conSumm cons }

theorem cfgC_ok {enters : Nat → Bool} (he : ∀ f, enters f = true → entersOf P f = true) {X : List (Nat × ExtOp)} (hX : ∀ p ∈ X, ExtAt P p.1 p.2) {cond : World → Prop} (hs : ∀ w w', cond w → Below w.heap.size w w' → cond w') {cons : List Con} (hc : ∀ c ∈ cons, c.ok P cond) (w : World) (hw : cond w) : CfgOK w.heap.size 0 ⟨w, [], P⟩ P (cfgC P enters X cons) :=
  { (cfg_ok (B := w.heap.size) (G := 0) (w0 := ⟨w, [], P⟩) rfl he hX) with summ := conSumm_ok (fun w' hb => hs w w' hw hb) hc }

/-- A call that comes to 'true', as a contract. -/
theorem con_true {f : Nat} {cond : World → Prop} (he : entersOf P f = true) (h : ∀ w : World, cond w → Calls P f (#[] : Array Value) w fun e w' => e = .returned (.bool true) ∧ Below w.heap.size w w') :
    (Con.mk f [] (.sc .bool) "isTrue" (fun _ => True) false fun vs => vs = [.bool true]).ok P cond := by
  refine ⟨he, fun w vs fl hw hin _ => ?_⟩
  simp only [relL] at hin
  obtain ⟨rfl, rfl⟩ := hin
  exact (h w hw).mono fun e w' ⟨h1, h2⟩ => ⟨.bool true, [.bool true], h1, by simp only [Sh.rel]; exact ⟨⟨true, rfl⟩, trivial⟩, rfl, h2⟩
end
end Go.Ev
