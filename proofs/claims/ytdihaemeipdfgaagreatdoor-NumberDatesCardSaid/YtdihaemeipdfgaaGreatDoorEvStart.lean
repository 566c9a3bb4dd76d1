/- The start of a call over package-level variables that are laid: what the laid data say of the cells. -/
import Derived.Test.YtdihaemeipdfgaaGreatDoorEvLaw
import Derived.OpenShut
import Derived.LaidSub
namespace Go.Ev
open Go.RowKit (Below)

/-! ### The cells that a datum fills -/
def flatL (f : DataW Unit → Option (List Value)) (c : Nat) : List (DataW Unit) → Option (List Value)
  | [] => some []
  | d :: r => match f d, flatL f c r with
    | some a, some b => bif Nat.beq a.length c then some (a ++ b) else none
    | _, _ => none

def flatF (P : Program) (f : TypeId → DataW Unit → Option (List Value)) : Nat → List Field → List (DataW Unit) → Option (List Value)
  | _, [], [] => some []
  | off, fd :: fs, d :: ds => bif Nat.beq fd.offset off then
      match f fd.type d, flatF P f (off + P.cellsOf fd.type) fs ds with
      | some a, some b => bif Nat.beq a.length (P.cellsOf fd.type) then some (a ++ b) else none
      | _, _ => none
    else none
  | _, _, _ => none

def ofLen (n : Nat) : Option (List Value) → Option (List Value)
  | some vs => bif Nat.beq vs.length n then some vs else none
  | none => none

theorem ofLen_some {n : Nat} {o : Option (List Value)} {vs : List Value} (h : ofLen n o = some vs) : o = some vs ∧ vs.length = n := by
  unfold ofLen at h
  split at h
  · rename_i us
    cases e : Nat.beq us.length n with
    | false => rw [e] at h; cases h
    | true => rw [e] at h; simp only [cond_true, Option.some.injEq] at h; subst h; exact ⟨rfl, Nat.eq_of_beq_eq_true e⟩
  · cases h

def flatD (P : Program) : Nat → TypeId → DataW Unit → Option (List Value)
  | 0, _, _ => none
  | n + 1, t, d => match P.underlying t with
    | some .bool => match d with
      | .lit (.bool b) => some [.bool b]
      | _ => none
    | some (.int _) => match d with
      | .lit (.int k m) => some [.int k m]
      | _ => none
    | some (.float _) => match d with
      | .lit (.float k m) => some [.float k m]
      | _ => none
    | some .string => match d with
      | .lit (.string l) => some [.string ⟨l.toArray⟩]
      | _ => none
    | some (.array _ e) => match d with
      | .agg ds => ofLen (P.cellsOf t) (flatL (flatD P n e) (P.cellsOf e) ds)
      | _ => none
    | some (.struct fs) => match d with
      | .agg ds => ofLen (P.cellsOf t) (flatF P (flatD P n) 0 fs.toList ds)
      | _ => none
    | _ => none

section
variable {P : Program} {w : World} {base : Nat} {sp : Nat → Bool} {held : Bool}

abbrev Trods (P : Program) (w : World) (base : Nat) (sp : Nat → Bool) (held : Bool) (fuel : Nat) (t : TypeId) (cs : List Value) : Option (DataW Unit × List MemPlace) := DataW.trod (fun _ => ()) P w base sp held fuel t cs

theorem trod_flo {H : Type} {enc : TypeId × Value → H} {fuel : Nat} {t : TypeId} {k : FloatKind} {cs : List Value} {x : DataW H × List MemPlace} (ht : P.underlying t = some (.float k)) (h : DataW.trod enc P w base sp held fuel t cs = some x) :
    ∃ b, cs = [.float k b] ∧ x = (.lit (.float k b), []) ∧ (Lit.float k b).wf = true := by
  cases fuel with
  | zero => simp [DataW.trod] at h
  | succ n =>
    unfold DataW.trod at h
    rw [ht] at h
    split at h <;> simp_all

theorem flatL_ok {f : DataW Unit → Option (List Value)} {c : Nat} {g : List Value → Option (DataW Unit × List MemPlace)} (ok : ∀ d vs cs p, f d = some vs → g cs = some (d, p) → cs = vs) :
    ∀ (ds : List (DataW Unit)) (xs : List (DataW Unit × List MemPlace)) (vs cs : List Value), ds = xs.map (·.1) → flatL f c ds = some vs → vs.length = cs.length →
      (∀ i, i < xs.length → g ((cs.drop (i * c)).take c) = xs[i]?) → cs = vs
  | [], xs, vs, cs, _, h, hl, _ => by
    simp only [flatL, Option.some.injEq] at h; subst h
    exact List.eq_nil_of_length_eq_zero hl.symm
  | d :: r, xs, vs, cs, hx, h, hl, hg => by
    cases xs with
    | nil => cases hx
    | cons x xr =>
      simp only [List.map_cons, List.cons.injEq] at hx
      obtain ⟨rfl, rfl⟩ := hx
      simp only [flatL] at h
      split at h
      · rename_i a b ha hb
        cases e : Nat.beq a.length c with
        | false => rw [e] at h; cases h
        | true =>
          rw [e] at h
          simp only [cond_true, Option.some.injEq] at h; subst h
          have e := Nat.eq_of_beq_eq_true e
          have h0 := hg 0 (by simp)
          simp only [Nat.zero_mul, List.drop_zero, List.getElem?_cons_zero] at h0
          have h1 := ok _ _ _ _ ha h0
          have h2 := flatL_ok ok _ xr b (cs.drop c) rfl hb (by simp only [List.length_drop]; simp only [List.length_append] at hl; omega) fun i hi => by
            have := hg (i + 1) (by simp only [List.length_cons]; omega)
            simp only [List.getElem?_cons_succ] at this
            rw [← this, List.drop_drop]
            congr 3
            rw [Nat.add_mul]; omega
          rw [← h1, ← h2, List.take_append_drop]
      · cases h

theorem flatF_ok {f : TypeId → DataW Unit → Option (List Value)} {g : TypeId → List Value → Option (DataW Unit × List MemPlace)} (ok : ∀ t d vs cs p, f t d = some vs → g t cs = some (d, p) → cs = vs) :
    ∀ (fs : List Field) (ds : List (DataW Unit)) (xs : List (DataW Unit × List MemPlace)) (vs cs : List Value) (off : Nat), ds = xs.map (·.1) → flatF P f off fs ds = some vs → vs.length = (cs.drop off).length →
      (∀ (i : Nat) (fd : Field), fs[i]? = some fd → g fd.type ((cs.drop fd.offset).take (P.cellsOf fd.type)) = xs[i]?) → cs.drop off = vs
  | [], [], xs, vs, cs, off, _, h, hl, _ => by
    simp only [flatF, Option.some.injEq] at h; subst h
    exact List.eq_nil_of_length_eq_zero hl.symm
  | fd :: fs, d :: r, xs, vs, cs, off, hx, h, hl, hg => by
    cases xs with
    | nil => cases hx
    | cons x xr =>
      simp only [List.map_cons, List.cons.injEq] at hx
      obtain ⟨rfl, rfl⟩ := hx
      simp only [flatF] at h
      cases eo : Nat.beq fd.offset off with
      | false => rw [eo] at h; cases h
      | true =>
        rw [eo] at h
        simp only [cond_true] at h
        have eo := Nat.eq_of_beq_eq_true eo
        split at h
        · rename_i a b ha hb
          cases e : Nat.beq a.length (P.cellsOf fd.type) with
          | false => rw [e] at h; cases h
          | true =>
            rw [e] at h
            simp only [cond_true, Option.some.injEq] at h; subst h
            have e := Nat.eq_of_beq_eq_true e
            have h0 := hg 0 fd rfl
            simp only [List.getElem?_cons_zero, eo] at h0
            have h1 := ok _ _ _ _ _ ha h0
            have h2 := flatF_ok ok fs _ xr b cs (off + P.cellsOf fd.type) rfl hb (by simp only [List.length_drop] at hl ⊢; simp only [List.length_append] at hl; omega) fun i gd hi => by
              have := hg (i + 1) gd (by simpa using hi)
              simpa using this
            rw [← h1, ← h2, ← List.drop_drop, List.take_append_drop]
        · cases h
  | [], _ :: _, _, _, _, _, _, h, _, _ => by cases h
  | _ :: _, [], _, _, _, _, _, h, _, _ => by cases h

theorem flatD_ok : ∀ (n : Nat) (t : TypeId) (d : DataW Unit) (vs : List Value) (fuel : Nat) (cs : List Value) (p : List MemPlace), flatD P n t d = some vs → Trods P w base sp held fuel t cs = some (d, p) → cs = vs
  | 0, _, _, _, _, _, _, h, _ => by cases h
  | n + 1, t, d, vs, fuel, cs, p, h, ht => by
    simp only [flatD] at h
    split at h
    · rename_i hu
      obtain ⟨b, rfl, hx⟩ := DataW.trod_bool hu ht
      cases hx
      simpa using h
    · rename_i k hu
      obtain ⟨b, rfl, hx, _⟩ := DataW.trod_int hu ht
      cases hx
      simpa using h
    · rename_i k hu
      obtain ⟨b, rfl, hx, _⟩ := trod_flo hu ht
      cases hx
      simpa using h
    · rename_i hu
      obtain ⟨s, rfl, hx, _⟩ := DataW.trod_string hu ht
      cases hx
      simpa using h
    · rename_i m e hu
      obtain ⟨xs, k, rfl, hx, hlen, hn, hel⟩ := DataW.trod_array hu ht
      cases hx
      obtain ⟨h1, h2⟩ := ofLen_some h
      refine flatL_ok (g := Trods P w base sp held k e) (fun d vs cs p hf hg => flatD_ok n e d vs k cs p hf hg) _ xs vs cs rfl h1 (by rw [h2, hlen]) fun i hi => ?_
      exact hel i (by omega)
    · rename_i fs hu
      obtain ⟨xs, k, rfl, hx, hlen, hn, hel⟩ := DataW.trod_struct hu ht
      cases hx
      obtain ⟨h1, h2⟩ := ofLen_some h
      have := flatF_ok (P := P) (g := Trods P w base sp held k) (fun t d vs cs p hf hg => flatD_ok n t d vs k cs p hf hg) _ _ xs vs cs 0 rfl h1 (by rw [h2, List.drop_zero, hlen]) fun i fd hi => ?_
      · simpa using this
      · exact hel i fd (by simpa using hi)
    · cases h
end

/-! ### The variables that are told -/
inductive GD where
  | cells (vs : List Value)
  | slice (xs : List Value)

structure GItem where
  g : Nat
  dat : GD
  k : Nat

def findN {α : Type} (n : String) : List (String × α) → Option α
  | [] => none
  | (m, x) :: r => bif m == n then some x else findN n r

theorem findN_mem {α : Type} {n : String} : ∀ {l : List (String × α)} {x : α}, findN n l = some x → (n, x) ∈ l
  | [], x, h => by cases h
  | (m, y) :: r, x, h => by
    simp only [findN] at h
    cases e : m == n with
    | true =>
      have : m = n := by simpa using e
      subst this
      rw [e] at h; simp only [cond_true, Option.some.injEq] at h; subst h; exact List.mem_cons_self
    | false => rw [e] at h; exact List.mem_cons_of_mem _ (findN_mem h)

def gItem (P : Program) (laid : List (String × DataW Unit)) (x : String × Nat) : Option GItem :=
  match P.globalNamed x.1, findN x.1 laid with
  | some g, some d => match (P.globals[g]?).map (·.type) with
    | some t => match P.underlying t, d with
      | some (.slice e), .slice ds _ => bif Nat.beq (P.cellsOf e) 1 then (match flatL (flatD P 3 e) 1 ds with
        | some xs => some ⟨g, .slice xs, x.2⟩
        | none => none) else none
      | some _, d => match flatD P 8 t d with
        | some vs => some ⟨g, .cells vs, x.2⟩
        | none => none
      | none, _ => none
    | none => none
  | _, _ => none

def gItems (P : Program) (laid : List (String × DataW Unit)) : List (String × Nat) → Option (List GItem)
  | [] => some []
  | x :: r => match gItem P laid x, gItems P laid r with
    | some a, some b => some (a :: b)
    | _, _ => none

def ItemOK (w : World) (it : GItem) : Prop :=
  match it.dat with
  | .cells vs => ∃ t fz, w.heap[it.g]? = some (.cells vs.toArray t fz)
  | .slice xs => ∃ a cap t fz, w.heap[it.g]? = some (.cells #[.slice (some a) xs.length cap] t fz) ∧ ∀ (j : Nat) v, xs[j]? = some v → w.cell? (a.add j) = some v

theorem lt_of_some {w : World} {g : Nat} {o : Obj} (h : w.heap[g]? = some o) : g < w.heap.size := by
  rcases Nat.lt_or_ge g w.heap.size with h' | h'
  · exact h'
  · simp [Array.getElem?_eq_none h'] at h

theorem cell_lt {w : World} {a : Addr} {v : Value} (h : w.cell? a = some v) : a.block < w.heap.size := by
  unfold World.cell? at h
  split at h
  · rename_i hh; exact lt_of_some hh
  · cases h

/-- What is told of the variables goes on where no old block is turned. -/
theorem ItemOK.below {w w' : World} {it : GItem} (h : ItemOK w it) (hb : Below w.heap.size w w') : ItemOK w' it := by
  unfold ItemOK at h ⊢
  split
  · rename_i vs e
    rw [e] at h
    obtain ⟨t, fz, h⟩ := h
    exact ⟨t, fz, by rw [hb.block _ (lt_of_some h)]; exact h⟩
  · rename_i xs e
    rw [e] at h
    obtain ⟨a, cap, t, fz, h, hc⟩ := h
    exact ⟨a, cap, t, fz, by rw [hb.block _ (lt_of_some h)]; exact h, fun j v hj => by
      have := hc j v hj
      rw [hb.cell (cell_lt this)]; exact this⟩

theorem var_row {P : Program} {w : World} {name : String} {g : Nat} {cs : Array Value} (hg : P.globalNamed name = some g) (hv : w.var? P name = some cs) : ∃ t fz, w.heap[g]? = some (.cells cs t fz) := by
  unfold World.var? at hv
  rw [hg] at hv
  simp only [Option.bind_some] at hv
  split at hv
  · rename_i c t fz hh
    simp only [Option.some.injEq] at hv; subst hv
    exact ⟨t, fz, hh⟩
  · cases hv

theorem laidVars_mem {P : Program} {w : World} : ∀ {l : List (String × DataW Unit)} {ps : List MemPlace}, DataW.LaidVars P w l ps → ∀ {n : String} {d : DataW Unit}, (n, d) ∈ l →
    ∃ g t cs fuel p, P.globalNamed n = some g ∧ (P.globals[g]?).map (·.type) = some t ∧ w.var? P n = some cs ∧ DataW.trod (fun _ => ()) P w 0 (fun _ => true) false fuel t cs.toList = some (d, p)
  | [], _, _, _, _, h => by cases h
  | (m, e) :: r, ps, ⟨g, t, cs, fuel, p, q, h1, h2, h3, h4, h5, _⟩, n, d, h => by
    cases h with
    | head => exact ⟨g, t, cs, fuel, p, h1, h2, h3, h4⟩
    | tail _ h => exact laidVars_mem h5 h

theorem gItem_ok {P : Program} {w : World} {laid : List (String × DataW Unit)} (hL : laidMet P laid w) {x : String × Nat} {it : GItem} (h : gItem P laid x = some it) : ItemOK w it := by
  obtain ⟨ps, hV, _⟩ := hL
  unfold gItem at h
  split at h
  · rename_i g d hg hd
    obtain ⟨g', t, cs, fuel, p, h1, h2, h3, h4⟩ := laidVars_mem hV (findN_mem hd)
    rw [hg] at h1; cases h1
    obtain ⟨te, fz, hrow⟩ := var_row hg h3
    rw [h2] at h
    simp only at h
    split at h
    · rename_i e ds rest hu
      cases hc : Nat.beq (P.cellsOf e) 1 with
      | false => rw [hc] at h; cases h
      | true =>
        rw [hc] at h
        simp only [cond_true] at h
        have hc := Nat.eq_of_beq_eq_true hc
        split at h
        · rename_i xs hxs
          simp only [Option.some.injEq] at h; subst h
          rcases DataW.trod_slice hu h4 with ⟨_, hx⟩ | ⟨a, len, cap, elems, rest', m, rfl, hcs, hx, _, _, _, hlen, hel, _⟩
          · cases hx
          · have hds : ds = elems.map (·.1) := by
              have := (Prod.mk.inj hx).1
              simp only [DataW.slice.injEq] at this
              exact this.1
            have key : ∀ (es : List (DataW Unit × List MemPlace)) (ys : List Value), flatL (flatD P 3 e) 1 (es.map (·.1)) = some ys → es.length = ys.length ∧ ∀ (j : Nat) (v : Value), ys[j]? = some v → ∃ d p, es[j]? = some (d, p) ∧ flatD P 3 e d = some [v] := by
              intro es
              induction es with
              | nil => intro ys hy; simp only [List.map_nil, flatL, Option.some.injEq] at hy; subst hy; exact ⟨rfl, fun j v hj => by simp at hj⟩
              | cons y er ih =>
                intro ys hy
                simp only [List.map_cons, flatL] at hy
                split at hy
                · rename_i u b hu' hb
                  cases hb1 : Nat.beq u.length 1 with
                  | false => rw [hb1] at hy; cases hy
                  | true =>
                    rw [hb1] at hy
                    simp only [cond_true, Option.some.injEq] at hy; subst hy
                    have hu1 := Nat.eq_of_beq_eq_true hb1
                    obtain ⟨z, rfl⟩ := List.length_eq_one_iff.1 hu1
                    obtain ⟨i1, i2⟩ := ih b hb
                    refine ⟨by simp [i1], fun j v hj => ?_⟩
                    cases j with
                    | zero => simp only [List.cons_append, List.getElem?_cons_zero, Option.some.injEq] at hj; subst hj; exact ⟨y.1, y.2, rfl, hu'⟩
                    | succ j => exact i2 j v (by simpa using hj)
                · cases hy
            rw [hds] at hxs
            obtain ⟨k1, k2⟩ := key elems xs hxs
            have hcs' : cs = #[.slice (some a) len cap] := by rw [← Array.toArray_toList (xs := cs), hcs]
            refine ⟨a, cap, te, fz, ?_, fun j v hj => ?_⟩
            · rw [hrow, hcs', ← k1, hlen]
            · obtain ⟨dj, pj, hej, hfl⟩ := k2 j v hj
              have hjl : j < len := by
                rw [← hlen]
                rcases Nat.lt_or_ge j elems.length with h' | h'
                · exact h'
                · simp [List.getElem?_eq_none h'] at hej
              have := hel j hjl
              rw [hc, Nat.mul_one, hej] at this
              obtain ⟨c1, hc1, hc2⟩ := Option.bind_eq_some_iff.1 this
              have hvs := flatD_ok (P := P) 3 e dj [v] _ c1 pj hfl hc2
              subst hvs
              obtain ⟨_, _, hcell⟩ := World.cells?_some hc1
              have := hcell 0 (by omega)
              have h0 : ∀ b : Addr, b.add 0 = b := fun b => by simp [Addr.add]
              rw [h0] at this
              simpa using this
        · cases h
    · split at h
      · rename_i vs hvs
        simp only [Option.some.injEq] at h; subst h
        have := flatD_ok (P := P) 8 t _ vs fuel cs.toList p hvs h4
        exact ⟨te, fz, by rw [hrow, ← this]⟩
      · cases h
    · cases h
  · cases h

theorem gItems_ok {P : Program} {w : World} {laid : List (String × DataW Unit)} (hL : laidMet P laid w) : ∀ {l : List (String × Nat)} {items : List GItem}, gItems P laid l = some items → ∀ it ∈ items, ItemOK w it
  | [], items, h, it, hit => by simp only [gItems, Option.some.injEq] at h; subst h; cases hit
  | x :: r, items, h, it, hit => by
    simp only [gItems] at h
    split at h
    · rename_i a b ha hb
      simp only [Option.some.injEq] at h; subst h
      cases hit with
      | head => exact gItem_ok hL ha
      | tail _ hit => exact gItems_ok hL hb it hit
    · cases h

/-! ### The start -/
def slicesG : List GItem → List (Nat × (Nat × List Value))
  | [] => []
  | it :: r => match it.dat with
    | .slice xs => (it.k, (it.g, xs)) :: slicesG r
    | .cells _ => slicesG r

def elemAt (w : World) (g : Nat) : TypeId := match w.heap[g]? with
  | some (.cells _ t _) => t
  | _ => 0

def firstAt (w : World) (g : Nat) : Option Value := match w.heap[g]? with
  | some (.cells cs _ _) => cs[0]?
  | _ => none

def objG (w : World) (it : GItem) : SObj := match it.dat with
  | .cells vs => .row (vs.map .val) (elemAt w it.g) false none
  | .slice _ => .row [.sym it.k] (elemAt w it.g) false none

def envG (pins : List (Nat × Value)) (w : World) (items : List GItem) : Env :=
  { ρ := fun i => bif isInN i (items.map (·.g)) then some i else none
    σ := fun i => match find i pins with
      | some v => some v
      | none => match find i (slicesG items) with
        | some p => firstAt w p.1
        | none => none
    κ := fun _ => none }

def stG (nsym ng : Nat) (sorts : List (Nat × Sort_)) (w : World) (items : List GItem) (facts : List Fact_ := []) : St :=
  { heap := items.map fun it => (it.g, objG w it), next := ng, ncap := 0, lows := [], nsym := nsym, sorts := sorts, pc := [], gs := items.map (·.g), ro := (slicesG items).map fun p => (p.1, p.2.2), ra := [], facts := facts }

def gOK (m nsym ng : Nat) (items : List GItem) : Bool :=
  Nat.ble m nsym && items.all fun it => Nat.blt it.g ng && match it.dat with
    | .slice _ => Nat.ble m it.k && (Nat.blt it.k nsym && match find it.k (slicesG items) with
      | some p => Nat.beq p.1 it.g
      | none => false)
    | .cells _ => true

theorem find_map {α β : Type} (f : α → β) (i : Nat) : ∀ l : List (Nat × α), find i (l.map fun p => (p.1, f p.2)) = (find i l).map f
  | [] => rfl
  | (j, x) :: r => by
    cases e : Nat.beq i j with
    | true => simp [find, e]
    | false => simp only [List.map_cons, find, e, cond_false]; exact find_map f i r

theorem slicesG_mem : ∀ {items : List GItem} {i : Nat} {p : Nat × List Value}, find i (slicesG items) = some p → ∃ it ∈ items, it.k = i ∧ it.g = p.1 ∧ it.dat = .slice p.2
  | [], i, p, h => by cases h
  | it :: r, i, p, h => by
    simp only [slicesG] at h
    split at h
    · rename_i xs hd
      simp only [find] at h
      cases e : Nat.beq i it.k with
      | true =>
        rw [e] at h
        simp only [cond_true, Option.some.injEq] at h; subst h
        exact ⟨it, List.mem_cons_self, (Nat.eq_of_beq_eq_true e).symm, rfl, hd⟩
      | false =>
        rw [e] at h
        obtain ⟨x, h1, h2⟩ := slicesG_mem (items := r) h
        exact ⟨x, List.mem_cons_of_mem _ h1, h2⟩
    · obtain ⟨x, h1, h2⟩ := slicesG_mem (items := r) h
      exact ⟨x, List.mem_cons_of_mem _ h1, h2⟩

theorem isInN_mem {i : Nat} : ∀ {l : List Nat}, isInN i l = true → i ∈ l
  | [], h => by cases h
  | j :: r, h => by
    simp only [isInN] at h
    cases e : Nat.beq i j with
    | true => rw [Nat.eq_of_beq_eq_true e]; exact List.mem_cons_self
    | false => rw [e] at h; exact List.mem_cons_of_mem _ (isInN_mem h)
theorem isInN_of {i : Nat} : ∀ {l : List Nat}, i ∈ l → isInN i l = true
  | j :: r, h => by
    simp only [isInN]
    cases e : Nat.beq i j with
    | true => rfl
    | false =>
      cases h with
      | head => simp at e
      | tail _ h => exact isInN_of h

theorem find_heapG {w : World} : ∀ {items : List GItem} {i : Nat} {o : SObj}, find i (items.map fun it => (it.g, objG w it)) = some o → ∃ it ∈ items, it.g = i ∧ o = objG w it
  | [], i, o, h => by cases h
  | it :: r, i, o, h => by
    simp only [List.map_cons, find] at h
    cases e : Nat.beq i it.g with
    | true =>
      rw [e] at h
      simp only [cond_true, Option.some.injEq] at h; subst h
      exact ⟨it, List.mem_cons_self, (Nat.eq_of_beq_eq_true e).symm, rfl⟩
    | false =>
      rw [e] at h
      obtain ⟨x, h1, h2⟩ := find_heapG (items := r) h
      exact ⟨x, List.mem_cons_of_mem _ h1, h2⟩

/-- The facts hold. -/
def FactsOK (P : Program) (E : Env) (facts : List Fact_) : Prop := ∀ q ∈ facts, ∃ vs v, SV.denL E q.args = some vs ∧ q.res.den E = some v ∧ ∀ w pins, q.op.rel ⟨w, pins, P⟩ vs v

theorem relG {P : Program} {w : World} {items : List GItem} (hI : ∀ it ∈ items, ItemOK w it) {m nsym ng : Nat} {sorts : List (Nat × Sort_)} {pins : List (Nat × Value)} (hp : Pinned_ m sorts pins) (hc : gOK m nsym ng items = true)
    {facts : List Fact_} (hF : FactsOK P (envG pins w items) facts) :
    Rel w.heap.size ng ⟨w, pins, P⟩ (envG pins w items) (stG nsym ng sorts w items facts) w := by
  simp only [gOK, Bool.and_eq_true, List.all_eq_true] at hc
  obtain ⟨hm, hc⟩ := hc
  have hm : m ≤ nsym := Nat.le_of_ble_eq_true hm
  have hg : ∀ it ∈ items, it.g < ng := fun it hit => Nat.le_of_ble_eq_true (hc it hit).1
  have hk : ∀ it ∈ items, ∀ xs, it.dat = .slice xs → m ≤ it.k ∧ it.k < nsym ∧ ∃ p, find it.k (slicesG items) = some p ∧ p.1 = it.g := fun it hit xs hd => by
    have := (hc it hit).2
    rw [hd] at this
    simp only [Bool.and_eq_true] at this
    obtain ⟨h1, h2, h3⟩ := this
    refine ⟨Nat.le_of_ble_eq_true h1, Nat.le_of_ble_eq_true h2, ?_⟩
    split at h3
    · rename_i p hp; exact ⟨p, hp, Nat.eq_of_beq_eq_true h3⟩
    · cases h3
  have hρ : ∀ i b, (envG pins w items).ρ i = some b → b = i ∧ ∃ it ∈ items, it.g = i := fun i b h => by
    simp only [envG] at h
    cases e : isInN i (items.map (·.g)) with
    | false => rw [e] at h; cases h
    | true =>
      rw [e] at h
      simp only [cond_true, Option.some.injEq] at h
      obtain ⟨it, h1, h2⟩ := List.mem_map.1 (isInN_mem e)
      exact ⟨h.symm, it, h1, h2⟩
  have hρ' : ∀ it ∈ items, (envG pins w items).ρ it.g = some it.g := fun it hit => by
    have : isInN it.g (items.map (·.g)) = true := isInN_of (List.mem_map.2 ⟨it, hit, rfl⟩)
    simp only [envG, this, cond_true]
  have hσs : ∀ i p, m ≤ i → find i (slicesG items) = some p → (envG pins w items).σ i = firstAt w p.1 := fun i p hi h => by
    simp only [envG, hp.few i hi, h]
  have hrow : ∀ it ∈ items, ∃ l t fz, w.heap[it.g]? = some (.cells l t fz) := fun it hit => by
    have := hI it hit
    unfold ItemOK at this
    split at this
    · obtain ⟨t, fz, h⟩ := this; exact ⟨_, t, fz, h⟩
    · obtain ⟨a, cap, t, fz, h, _⟩ := this; exact ⟨_, t, fz, h⟩
  exact
  { heap := fun id o h => by
      obtain ⟨it, hit, rfl, rfl⟩ := find_heapG h
      have hi := hI it hit
      unfold ItemOK at hi
      unfold objG
      split at hi
      · rename_i vs hd
        obtain ⟨t, fz, hh⟩ := hi
        refine ⟨it.g, _, hρ' it hit, hh, vs, fz, denL_vals vs, ?_, fun h => by cases h⟩
        simp only [elemAt, hh]
      · rename_i xs hd
        obtain ⟨a, cap, t, fz, hh, _⟩ := hi
        obtain ⟨h1, h2, p, h3, h4⟩ := hk it hit xs hd
        refine ⟨it.g, _, hρ' it hit, hh, [.slice (some a) xs.length cap], fz, ?_, ?_, fun h => by cases h⟩
        · refine denL_mk ?_ rfl
          simp only [SV.den]
          rw [hσs it.k p h1 h3, h4]
          simp [firstAt, hh]
        · simp only [elemAt, hh]
    inj := fun i j a b c _ _ h1 h2 => by rw [← (hρ i c h1).1, ← (hρ j c h2).1]
    newρ := fun i hi => by
      cases h : (envG pins w items).ρ i with
      | none => rfl
      | some b =>
        obtain ⟨_, it, h1, h2⟩ := hρ i b h
        have := hg it h1
        have hi : ng ≤ i := hi
        omega
    newσ := fun i hi => by
      have hi : nsym ≤ i := hi
      have h1 := hp.few i (by omega)
      cases h : find i (slicesG items) with
      | none => simp only [envG, h1, h]
      | some p =>
        obtain ⟨it, k1, k2, _, k4⟩ := slicesG_mem h
        have := (hk it k1 _ k4).2.1
        omega
    newκ := fun _ _ => rfl
    dom := fun i b h => by
      obtain ⟨rfl, it, h1, rfl⟩ := hρ i b h
      obtain ⟨l, t, fz, hh⟩ := hrow it h1
      exact lt_of_some hh
    own := fun i o b hf hG hb => by
      obtain ⟨_, it, h1, h2⟩ := hρ i b hb
      have := hg it h1
      omega
    base := Nat.le_refl _
    below := Below.refl _ _
    lows := fun _ _ h => by cases h
    sorts := fun i s hs => by
      obtain ⟨v, h1, h2⟩ := hp.fits i s hs
      exact ⟨v, by simp only [envG, h1], h2⟩
    pc := fun _ _ h => by cases h
    glob := fun i hi => by
      have : isInN i (items.map (·.g)) = true := hi
      simp only [envG, this, cond_true]
    pins := fun p h => by simp only [envG, hp.once p h]
    ro := fun i xs h => by
      have h : find i ((slicesG items).map fun p => (p.1, p.2.2)) = some xs := h
      rw [find_map (fun q : Nat × List Value => q.2) i (slicesG items)] at h
      cases hs : find i (slicesG items) with
      | none => rw [hs] at h; cases h
      | some p =>
        rw [hs] at h
        simp only [Option.map_some, Option.some.injEq] at h
        obtain ⟨it, k1, k2, k3, k4⟩ := slicesG_mem hs
        have hi := hI it k1
        unfold ItemOK at hi
        rw [k4] at hi
        obtain ⟨a, cap, t, fz, hh, hc'⟩ := hi
        have h1 := (hk it k1 _ k4).1
        refine ⟨a, cap, ?_, fun j v hj => ?_⟩
        · rw [hσs i p (by omega) hs, ← k3]
          simp [firstAt, hh, ← h]
        · have := hc' j v (by rw [h]; exact hj)
          exact ⟨this, by have := cell_lt this; rwa [addr_add_block] at this⟩
    ra := fun _ _ h => by cases h
    facts := fun q hq => by obtain ⟨vs, v, h1, h2, h3⟩ := hF q hq; exact ⟨vs, v, h1, h2, h3 w pins⟩
    lists := fun _ h => by cases h
    apart := fun _ h => by cases h }

/-! ### Calls -/
/-- A contract, in the worlds that a condition lets in. -/
def Known.okIn (P : Program) (pins : List (Nat × Value)) (cond : World → Prop) (k : Known) : Prop :=
  entersOf P k.f = true ∧ ∀ (E : Env) (vs : List Value) (w : World), cond w → (∀ p ∈ pins, E.σ p.1 = some p.2) → SV.denL E k.args = some vs →
    ∃ v, k.res.den E = some v ∧ Calls P k.f vs.toArray w fun e w' => e = .returned v ∧ Below w.heap.size w w'

def cfgG (P : Program) (G : Nat) (enters : Nat → Bool) (l : List Known) : Cfg := { cfg P G enters with summ := knownOf l }

section
variable {P : Program} {B G : Nat} {w0 : Start}

theorem knownOf_okIn {cond : World → Prop} (hcond : ∀ w, Below B w0.w w → cond w) : ∀ (l : List Known), (∀ k ∈ l, k.okIn P w0.pins cond) → SummOK B G w0 P (knownOf l)
  | [], _ => fun _ _ _ _ h => by cases h
  | k :: r, hl => by
    intro f args S rs h
    simp only [knownOf] at h
    cases e : Nat.beq k.f f && sameUs k.args args with
    | false =>
      rw [e] at h
      exact knownOf_okIn hcond r (fun x hx => hl x (List.mem_cons_of_mem _ hx)) f args S rs h
    | true =>
      rw [e] at h
      simp only [cond_true, Option.some.injEq] at h
      subst h
      simp only [Bool.and_eq_true] at e
      have e1 := Nat.eq_of_beq_eq_true e.1
      have e2 := sameUs_eq e.2
      subst e1 e2
      obtain ⟨h1, h2⟩ := hl k List.mem_cons_self
      refine ⟨fun as w => entersOf_ok h1 as w, fun E vs w R hr hvs hR _ => ?_⟩
      obtain ⟨v, hv, hc⟩ := h2 E vs w (hcond w hr.below) hr.pins hvs
      refine hc.mono fun e w' ⟨he, hb⟩ => ?_
      subst he
      exact hR _ List.mem_cons_self E v w' E.le_refl (hr.after hb) hv

theorem cfgG_ok (hP : w0.P = P) {enters : Nat → Bool} (he : ∀ f, enters f = true → entersOf P f = true) {cond : World → Prop} (hcond : ∀ w, Below B w0.w w → cond w) {l : List Known} (hl : ∀ k ∈ l, k.okIn P w0.pins cond) :
    CfgOK B G w0 P (cfgG P G enters l) :=
  { (cfg_ok (B := B) (G := G) (w0 := w0) hP he (fun _ h => by cases h)) with summ := knownOf_okIn hcond l hl }
end

/-- The worlds in which the told variables hold what they are told to hold. -/
def Holds (items : List GItem) (w : World) : Prop := ∀ it ∈ items, ItemOK w it

theorem Holds.below {items : List GItem} {w w' : World} (h : Holds items w) (hb : Below w.heap.size w w') : Holds items w' := fun it hit => (h it hit).below hb

theorem calls_allG {P : Program} {enters : Nat → Bool} {l : List Known} {n f : Nat} (hm : P.follows .mixedOrders = true) (he : ∀ f, enters f = true → entersOf P f = true)
    {items : List GItem} {m nsym ng : Nat} {sorts : List (Nat × Sort_)} {pins : List (Nat × Value)} (hp : Pinned_ m sorts pins) (hc : gOK m nsym ng items = true) (hl : ∀ k ∈ l, k.okIn P pins (Holds items))
    {w : World} (hI : Holds items w) {facts : List Fact_} (hF : FactsOK P (envG pins w items) facts) {args : List SV} {vs : List Value} (hv : SV.denL (envG pins w items) args = some vs)
    {p : Out → Bool} (ho : allOuts (cfgG P ng enters l) n f args (stG nsym ng sorts w items facts) p = true) :
    Calls P f vs.toArray w fun e w' => ∃ o, p o = true ∧ ∃ (F : Env) (sv : SV) (v : Value), o.kind = .val sv ∧ sv.den F = some v ∧ e = .returned v ∧ Rel w.heap.size ng ⟨w, pins, P⟩ F o.st w' := by
  unfold allOuts at ho
  split at ho
  · rename_i outs houts
    exact evaluate_ok (cfgG_ok (w0 := ⟨w, pins, P⟩) (B := w.heap.size) (G := ng) rfl he (cond := Holds items) (fun w' hb => hI.below hb) hl) hm n _ _ houts (envG pins w items) vs w _ (relG hI hp hc hF) hv
      (fun o hmem F sv v w' _ h2 h3 h4 => ⟨o, (allOuts_mem ho hmem).2, F, sv, v, h3, h4, rfl, h2⟩) (fun o hmem hb => by rw [(allOuts_mem ho hmem).1] at hb; cases hb)
  · cases ho

theorem calls_trueG {P : Program} {enters : Nat → Bool} {l : List Known} {n f : Nat} (hm : P.follows .mixedOrders = true) (he : ∀ f, enters f = true → entersOf P f = true)
    {items : List GItem} {m nsym ng : Nat} {sorts : List (Nat × Sort_)} {pins : List (Nat × Value)} (hp : Pinned_ m sorts pins) (hc : gOK m nsym ng items = true) (hl : ∀ k ∈ l, k.okIn P pins (Holds items))
    {w : World} (hI : Holds items w) {facts : List Fact_} (hF : FactsOK P (envG pins w items) facts) {args : List SV} {vs : List Value} (hv : SV.denL (envG pins w items) args = some vs)
    (ho : allOuts (cfgG P ng enters l) n f args (stG nsym ng sorts w items facts) outTrue = true) :
    Calls P f vs.toArray w fun e w' => e = .returned (.bool true) ∧ Below w.heap.size w w' :=
  (calls_allG hm he hp hc hl hI hF hv ho).mono fun e w' ⟨o, h, F, sv, v, h1, h2, h3, h4⟩ => by
    unfold outTrue at h
    rw [h1] at h
    simp only [isTrueS] at h
    split at h
    · simp only [SV.den, Option.some.injEq] at h2; subst h2
      exact ⟨h3, h4.below⟩
    · cases h

theorem noFacts (P : Program) (E : Env) : FactsOK P E [] := fun _ h => by cases h

theorem pinned0 : Pinned_ 0 [] [] := ⟨fun _ _ => rfl, (fun _ _ h => by cases h), (fun _ h => by cases h)⟩

/-- A closed call that comes to 'true' where the told variables hold what they are told to hold, as a contract. -/
theorem known_trueG {P : Program} {f : Nat} {pins : List (Nat × Value)} {items : List GItem} (he : entersOf P f = true)
    (h : ∀ w : World, Holds items w → Calls P f (#[] : Array Value) w fun e w' => e = .returned (.bool true) ∧ Below w.heap.size w w') : (Known.mk f [] (.val (.bool true))).okIn P pins (Holds items) :=
  ⟨he, fun E vs w hw _ hvs => by
    simp only [SV.denL, Option.some.injEq] at hvs; subst hvs
    exact ⟨.bool true, by simp only [SV.den], h w hw⟩⟩
end Go.Ev
