/- A region that draws its order, whose orders come to the same: one outcome. -/
import Derived.Test.YtlpbimookmhjbaaGreatDoorEvAny
namespace Go.Ev
open Go.RowKit (Below)

def mSort : Sort_ → Sort_ → Bool
  | .bool, .bool => true
  | .int a, .int b => decide (a = b)
  | .float a, .float b => decide (a = b)
  | .str, .str => true
  | .any, .any => true
  | .cell, .cell => true
  | .intIn k a b, .intIn j c d => decide (k = j) && (decide (a = c) && decide (b = d))
  | _, _ => false
theorem mSort_eq {x y : Sort_} (h : mSort x y = true) : x = y := by
  unfold mSort at h
  split at h
  all_goals first
    | rfl
    | (simp only [decide_eq_true_eq] at h; rw [h])
    | (simp only [Bool.and_eq_true, decide_eq_true_eq] at h; rw [h.1, h.2.1, h.2.2])
    | cases h

def eqL {α : Type} (f : α → α → Bool) : List α → List α → Bool
  | [], [] => true
  | x :: xs, y :: ys => f x y && eqL f xs ys
  | _, _ => false
theorem eqL_eq {α : Type} {f : α → α → Bool} (hf : ∀ x y, f x y = true → x = y) : ∀ {x y : List α}, eqL f x y = true → x = y
  | [], [], _ => rfl
  | x :: xs, y :: ys, h => by
    simp only [eqL, Bool.and_eq_true] at h
    rw [hf x y h.1, eqL_eq hf h.2]
  | [], _ :: _, h => by cases h
  | _ :: _, [], h => by cases h

def mVal (x y : SV) : Bool := x.same y || (match x, y with
  | .val (.tuple a), .val (.tuple b) => Nat.beq a.size 0 && Nat.beq b.size 0
  | .val (.pointer (some a)), .val (.pointer (some b)) => decide (a = b)
  | .tuple a, .tuple b => sameL a b
  | _, _ => false)
theorem mVal_eq (x y : SV) (h : mVal x y = true) : x = y := by
  unfold mVal at h
  simp only [Bool.or_eq_true] at h
  rcases h with h | h
  · exact same_eq _ _ h
  · split at h
    · rename_i a b
      simp only [Bool.and_eq_true] at h
      have z : ∀ {a : Array Value}, Nat.beq a.size 0 = true → a = #[] := fun h => Array.eq_empty_of_size_eq_zero (Nat.eq_of_beq_eq_true h)
      rw [z h.1, z h.2]
    · simp only [decide_eq_true_eq] at h; rw [h]
    · rw [sameL_eq _ _ h]
    · cases h

def mExt : Option (Nat × Nat) → Option (Nat × Nat) → Bool
  | none, none => true
  | some a, some b => Nat.beq a.1 b.1 && Nat.beq a.2 b.2
  | _, _ => false
theorem mExt_eq {x y : Option (Nat × Nat)} (h : mExt x y = true) : x = y := by
  unfold mExt at h
  split at h
  · rfl
  · rename_i a b
    simp only [Bool.and_eq_true] at h
    obtain ⟨a1, a2⟩ := a; obtain ⟨b1, b2⟩ := b
    have e1 : a1 = b1 := Nat.eq_of_beq_eq_true h.1
    have e2 : a2 = b2 := Nat.eq_of_beq_eq_true h.2
    subst e1; subst e2; rfl
  · cases h

def mEntry (x y : SV × SV × Nat) : Bool := mVal x.1 y.1 && (mVal x.2.1 y.2.1 && Nat.beq x.2.2 y.2.2)
theorem mEntry_eq (x y : SV × SV × Nat) (h : mEntry x y = true) : x = y := by
  obtain ⟨a, b, c⟩ := x; obtain ⟨d, e, f⟩ := y
  simp only [mEntry, Bool.and_eq_true] at h
  rw [mVal_eq _ _ h.1, mVal_eq _ _ h.2.1, Nat.eq_of_beq_eq_true h.2.2]

def mObj : SObj → SObj → Bool
  | .row a e wr x, .row b f vr y => Nat.beq e f && (wr == vr && (mExt x y && eqL mVal a b))
  | .map a c, .map b d => Nat.beq c d && eqL mEntry a b
  | .bag a, .bag b => eqL mEntry a b
  | .siter s p, .siter t q => s.data.toList == t.data.toList && Nat.beq p q
  | .miter none b c d, .miter none f g h => Nat.beq b f && (eqL Nat.beq c g && Nat.beq d h)
  | .miter (some a) b c d, .miter (some e) f g h => Nat.beq a e && (Nat.beq b f && (eqL Nat.beq c g && Nat.beq d h))
  | _, _ => false
theorem nb (x y : Nat) (h : Nat.beq x y = true) : x = y := Nat.eq_of_beq_eq_true h
theorem mObj_eq {x y : SObj} (h : mObj x y = true) : x = y := by
  unfold mObj at h
  split at h
  · simp only [Bool.and_eq_true, beq_iff_eq] at h
    obtain ⟨h1, rfl, h3, h4⟩ := h
    rw [nb _ _ h1, mExt_eq h3, eqL_eq mVal_eq h4]
  · simp only [Bool.and_eq_true] at h
    rw [nb _ _ h.1, eqL_eq mEntry_eq h.2]
  · rw [eqL_eq mEntry_eq h]
  · rename_i s p t q
    simp only [Bool.and_eq_true, beq_iff_eq] at h
    have : s = t := by cases s; cases t; simp only [ByteArray.mk.injEq]; exact Array.ext' h.1
    rw [this, nb _ _ h.2]
  · simp only [Bool.and_eq_true] at h
    rw [nb _ _ h.1, eqL_eq nb h.2.1, nb _ _ h.2.2]
  · simp only [Bool.and_eq_true] at h
    rw [nb _ _ h.1, nb _ _ h.2.1, eqL_eq nb h.2.2.1, nb _ _ h.2.2.2]
  · cases h

def mBlock (x y : Nat × SObj) : Bool := Nat.beq x.1 y.1 && mObj x.2 y.2
theorem mBlock_eq (x y : Nat × SObj) (h : mBlock x y = true) : x = y := by
  obtain ⟨a, b⟩ := x; obtain ⟨c, d⟩ := y
  simp only [mBlock, Bool.and_eq_true] at h
  rw [nb _ _ h.1, mObj_eq h.2]
def mPair (x y : Nat × Nat) : Bool := Nat.beq x.1 y.1 && Nat.beq x.2 y.2
theorem mPair_eq (x y : Nat × Nat) (h : mPair x y = true) : x = y := by
  obtain ⟨a, b⟩ := x; obtain ⟨c, d⟩ := y
  simp only [mPair, Bool.and_eq_true] at h
  rw [nb _ _ h.1, nb _ _ h.2]
def mList (x y : LEnt) : Bool := Nat.beq x.s y.s && (Nat.beq x.x y.x && (Nat.beq x.e y.e && (x.own == y.own && eqL mSort x.lay y.lay)))
theorem mList_eq (x y : LEnt) (h : mList x y = true) : x = y := by
  obtain ⟨a, b, c, d, e⟩ := x; obtain ⟨f, g, i, j, k⟩ := y
  simp only [mList, Bool.and_eq_true, beq_iff_eq] at h
  obtain ⟨h1, h2, h3, rfl, h5⟩ := h
  rw [nb _ _ h1, nb _ _ h2, nb _ _ h3, eqL_eq (fun _ _ => mSort_eq) h5]

/-- What is known at the region's begin, over the memory behind it. -/
def overMem (S T : St) : St := { S with heap := T.heap, next := T.next, ncap := T.ncap, lows := T.lows, lists := T.lists, pan := none, bad := false, ds := [] }

/-- As the first one, and nothing new is unknown. -/
def alikeOut (S : St) (p q : List SV × St) : Bool :=
  !q.2.ends && (Nat.beq q.2.nsym S.nsym && (q.2.ds.isEmpty && (eqL mVal p.1 q.1 && (Nat.beq p.2.next q.2.next && (Nat.beq p.2.ncap q.2.ncap && (eqL mPair p.2.lows q.2.lows && (eqL mList p.2.lists q.2.lists && eqL mBlock p.2.heap q.2.heap)))))))

def mergeOuts (S : St) (l : List (List SV × St)) : List (List SV × St) :=
  match l with
  | p :: q :: r => bif (p :: q :: r).all (alikeOut S p) then [(p.1, overMem S p.2)] else l
  | l => l

theorem mergeOuts_cases (S : St) (l : List (List SV × St)) :
    mergeOuts S l = l ∨ ∃ p r, l = p :: r ∧ l.all (alikeOut S p) = true ∧ mergeOuts S l = [(p.1, overMem S p.2)] := by
  unfold mergeOuts
  match l with
  | [] => exact .inl rfl
  | [p] => exact .inl rfl
  | p :: q :: r =>
    cases h : (p :: q :: r).all (alikeOut S p) with
    | false => exact .inl (by simp only [h, cond_false])
    | true => exact .inr ⟨p, q :: r, rfl, h, by simp only [h, cond_true]⟩

section
variable {B G : Nat} {w0 : Start} {P : Program}

theorem overMem_ok {E F : Env} {S T T' : St} {w w' : World} (hr : Rel B G w0 E S w) (hE : E.le F) (hr' : Rel B G w0 F T' w') (h1 : T.heap = T'.heap) (h2 : T.next = T'.next) (h3 : T.ncap = T'.ncap) (h4 : T.lows = T'.lows) (h5 : T.lists = T'.lists) (h6 : T'.nsym = S.nsym) :
    Rel B G w0 F (overMem S T) w' := by
  unfold overMem
  rw [h1, h2, h3, h4, h5]
  exact
  { heap := hr'.heap
    inj := hr'.inj
    newρ := hr'.newρ
    newσ := by rw [← h6]; exact hr'.newσ
    newκ := hr'.newκ
    dom := hr'.dom
    own := hr'.own
    base := hr'.base
    below := hr'.below
    lows := hr'.lows
    sorts := fun i t hi => by obtain ⟨v, a, b⟩ := hr.sorts i t hi; exact ⟨v, hE.σ _ _ a, b⟩
    pc := fun i b hi => hE.σ _ _ (hr.pc i b hi)
    glob := fun i hi => hE.ρ _ _ (hr.glob i hi)
    pins := hr'.pins
    ro := fun i xs hi => by obtain ⟨a, cap, x, y⟩ := hr.ro i xs hi; exact ⟨a, cap, hE.σ _ _ x, y⟩
    ra := fun i u hi => by obtain ⟨a, x, y⟩ := hr.ra i u hi; exact ⟨a, hE.σ _ _ x, y⟩
    deeps := fun d hd => by obtain ⟨v, x, a, b, c⟩ := hr.deeps d hd; exact ⟨v, x, hE.σ _ _ a, hE.σ _ _ b, c⟩
    facts := fun q hq => by obtain ⟨vs, v, a, b, c⟩ := hr.facts q hq; exact ⟨vs, v, SV.denL_mono hE _ _ a, SV.den_mono hE _ _ b, c⟩
    lists := hr'.lists
    apart := hr'.apart }

def evAnyM (C : Cfg) (rec : Task → Option (List Out)) (ops : Array Oper) (ts : List SV) (S : St) : Option (List (List SV × St)) :=
  match evAny C rec ops ts S with
  | some l => some (mergeOuts S l)
  | none => none

theorem evAnyM_ok {C : Cfg} (hC : CfgOK B G w0 P C) (hm : P.follows .mixedOrders = true) : AnyOK B G w0 P (evAnyM C) := by
  intro n rec hrec id ops ts S l h E a w Q hr ht hd hQ hbad
  unfold evAnyM at h
  split at h
  case h_2 => cases h
  rename_i l0 hl0
  simp only [Option.some.injEq] at h; subst h
  have key := evAny_ok hC hm n rec hrec id ops ts S l0 hl0 E a w Q hr ht hd
  rcases mergeOuts_cases S l0 with hm | ⟨p, r, hl, hall, hm⟩
  · rw [hm] at hQ hbad; exact key hQ hbad
  · rw [hm] at hQ hbad
    simp only [List.map_cons, List.map_nil] at hQ hbad
    have one : ∀ z ∈ l0, z.2.pan = none ∧ z.2.bad = false ∧ z.2.ds = [] ∧ p.1 = z.1 ∧ ∀ {F : Env} {w' : World}, E.le F → Rel B G w0 F z.2 w' → Rel B G w0 F (overMem S p.2) w' := fun z hz => by
      have h := List.all_eq_true.1 hall z hz
      simp only [alikeOut, Bool.and_eq_true, Bool.not_eq_true', List.isEmpty_iff] at h
      obtain ⟨h0, h1, h2, h3, h4, h5, h6, h7, h8⟩ := h
      obtain ⟨k1, k2⟩ := ends_cases h0
      exact ⟨k2, k1, h2, eqL_eq mVal_eq h3, fun hE hrz => overMem_ok hr hE hrz (eqL_eq mBlock_eq h8) (nb _ _ h4) (nb _ _ h5) (eqL_eq mPair_eq h6) (eqL_eq mList_eq h7) (nb _ _ h1)⟩
    refine key (fun o ho F e a' w' h1 h2 h3 h4 h5 => ?_) (fun o ho hb F w' h1 h2 => ?_)
    · obtain ⟨z, hz, rfl⟩ := List.mem_map.1 ho
      obtain ⟨z1, z2, z3, z4, z5⟩ := one z hz
      rw [regOutX_none z1] at h2 h3 h4 h5
      cases h5
      have := hQ (regOutX (p.1, overMem S p.2)) List.mem_cons_self F .normal a' w' h1
      rw [regOutX_none (p := (p.1, overMem S p.2)) rfl] at this
      simp only at h4
      rw [z3] at h4
      exact this (z5 h1 h2) (fun _ => by rw [z4]; exact h3 trivial) h4 rfl
    · obtain ⟨z, hz, rfl⟩ := List.mem_map.1 ho
      obtain ⟨z1, z2, _⟩ := one z hz
      rw [regOutX_none z1] at hb
      simp only at hb
      rw [z2] at hb; cases hb
end
end Go.Ev
