/- Loops whose rounds are not counted: the head is found, a predicate of the user's holds there, a measure falls. -/
import Derived.Test.YtdihaemeipdfgaaGreatDoorEvLApp
import Derived.Test.YtdihaemeipdfgaaGreatDoorEvAny
import Derived.Deep.LoopGhost
namespace Go.Ev
open Go.RowKit (Below)

/-! ### The same -/
def valSame : Value → Value → Bool
  | .tuple a, .tuple b => Nat.beq a.size 0 && Nat.beq b.size 0
  | .pointer (some a), .pointer (some b) => decide (a = b)
  | .func (.func f) a b, .func (.func g) c d => Nat.beq f g && (Nat.beq a.size 0 && (Nat.beq b.size 0 && (Nat.beq c.size 0 && Nat.beq d.size 0)))
  | _, _ => false

theorem arr0 {α : Type} {a : Array α} (h : Nat.beq a.size 0 = true) : a = #[] := Array.eq_empty_of_size_eq_zero (Nat.eq_of_beq_eq_true h)

theorem valSame_eq {x y : Value} (h : valSame x y = true) : x = y := by
  unfold valSame at h
  split at h
  · simp only [Bool.and_eq_true] at h; rw [arr0 h.1, arr0 h.2]
  · simp only [decide_eq_true_eq] at h; rw [h]
  · simp only [Bool.and_eq_true] at h
    rw [Nat.eq_of_beq_eq_true h.1, arr0 h.2.1, arr0 h.2.2.1, arr0 h.2.2.2.1, arr0 h.2.2.2.2]
  · cases h

def SV.alike (x y : SV) : Bool := x.same y || (match x, y with
  | .val a, .val b => valSame a b
  | .tuple a, .tuple b => sameL a b
  | _, _ => false)

theorem alike_eq {x y : SV} (h : x.alike y = true) : x = y := by
  unfold SV.alike at h
  simp only [Bool.or_eq_true] at h
  rcases h with h | h
  · exact same_eq _ _ h
  · split at h
    · rw [valSame_eq h]
    · rw [sameL_eq _ _ h]
    · cases h

def sameSo : Sort_ → Sort_ → Bool
  | .bool, .bool => true
  | .int a, .int b => decide (a = b)
  | .float a, .float b => decide (a = b)
  | .str, .str => true
  | .any, .any => true
  | .cell, .cell => true
  | _, _ => false

theorem sameSo_eq {x y : Sort_} (h : sameSo x y = true) : x = y := by
  unfold sameSo at h
  split at h
  · rfl
  · simp only [decide_eq_true_eq] at h; rw [h]
  · simp only [decide_eq_true_eq] at h; rw [h]
  · rfl
  · rfl
  · rfl
  · cases h

def sameSos : List Sort_ → List Sort_ → Bool
  | [], [] => true
  | x :: r, y :: s => bif sameSo x y then sameSos r s else false
  | _, _ => false

theorem sameSos_eq : ∀ {x y : List Sort_}, sameSos x y = true → x = y
  | [], [], _ => rfl
  | x :: r, y :: s, h => by
    simp only [sameSos] at h
    cases e : sameSo x y with
    | false => rw [e] at h; cases h
    | true => rw [e] at h; rw [sameSo_eq e, sameSos_eq (x := r) (y := s) h]
  | [], _ :: _, h => by cases h
  | _ :: _, [], h => by cases h

/-! ### What a place becomes at the head -/
inductive Hv where
  | keep
  | scal (t : Sort_)
  | list (e : TypeId) (lay : List Sort_)
  | agg (l : List Hv)

def listTag (S : St) : SV → Option (TypeId × List Sort_)
  | .sym n => match listAt n S.lists with
    | some l => bif l.own then some (l.e, l.lay) else none
    | none => none
  | _ => none

def isNilS : SV → Bool
  | .val (.slice none 0 0) => true
  | _ => false

def diffHv (S S' : St) : Nat → SV → SV → Hv
  | 0, _, _ => .scal .any
  | d + 1, x, y => bif x.alike y then .keep else match listTag S x, listTag S' y with
    | some a, some _ => .list a.1 a.2
    | some a, none => bif isNilS y then .list a.1 a.2 else .scal .any
    | none, some b => bif isNilS x then .list b.1 b.2 else .scal .any
    | none, none => match aggOf x, aggOf y with
      | some xs, some ys => bif Nat.beq xs.length ys.length then .agg ((xs.zip ys).map fun p => diffHv S S' d p.1 p.2) else .scal .any
      | _, _ => match kindS S x, kindS S' y with
        | some k, some k' => bif sameSo k.sort k'.sort then .scal k.sort else .scal .any
        | _, _ => .scal .any

def joinHv : Nat → Hv → Hv → Hv
  | _, .keep, h => h
  | _, h, .keep => h
  | _, .scal a, .scal b => bif sameSo a b then .scal a else .scal .any
  | _, .list e l, .list _ _ => .list e l
  | d + 1, .agg a, .agg b => bif Nat.beq a.length b.length then .agg ((a.zip b).map fun p => joinHv d p.1 p.2) else .scal .any
  | _, _, _ => .scal .any

/-- The place at the head, its unknowns counted from 'n'. -/
def instHv : Nat → Hv → SV → Nat → SV × Nat
  | _, .keep, x, n => (x, n)
  | _, .scal _, _, n => (.sym n, n + 1)
  | _, .list _ _, _, n => (.sym n, n + 2)
  | 0, .agg _, _, n => (.val undef, n)
  | d + 1, .agg l, x, n => match aggOf x with
    | some xs =>
      let r := (l.zip xs).foldl (fun (acc : List SV × Nat) p => let q := instHv d p.1 p.2 acc.2; (q.1 :: acc.1, q.2)) ([], n)
      (.agg r.1.reverse, r.2)
    | none => (.val undef, n)

/-- The unknowns' sorts, in order. -/
def sortsHv : Nat → Hv → List Sort_
  | _, .keep => []
  | _, .scal t => [t]
  | _, .list _ _ => [.cell, .any]
  | 0, .agg _ => []
  | d + 1, .agg l => l.flatMap (sortsHv d)

/-- The lists among them: how far from the first, the element's type, the layout. -/
def listsHv : Nat → Hv → Nat → List (Nat × TypeId × List Sort_)
  | _, .keep, _ => []
  | _, .scal _, _ => []
  | _, .list e lay, n => [(n, e, lay)]
  | 0, .agg _, _ => []
  | d + 1, .agg l, n => (l.foldl (fun (acc : List (Nat × TypeId × List Sort_) × Nat) h => (acc.1 ++ listsHv d h acc.2, acc.2 + (sortsHv d h).length)) ([], n)).1

def listVals (S : St) (y : SV) : Option (List SV) :=
  match y with
  | .sym n => match listAt n S.lists with
    | some l => some [.sym n, .sym l.x]
    | none => none
  | y => bif isNilS y then some [y, .val (.agg #[])] else none

/-- What the unknowns stand for, where the place holds that. -/
def valsHv (S : St) : Nat → Hv → SV → Option (List SV)
  | _, .keep, _ => some []
  | _, .scal _, y => some [y]
  | _, .list _ _, y => listVals S y
  | 0, .agg _, _ => none
  | d + 1, .agg l, y => match aggOf y with
    | some ys => bif Nat.beq l.length ys.length then bindL (l.zip ys) fun p => valsHv S d p.1 p.2 else none
    | none => none

/-- What is kept of a block: the cells, each; or all; or nothing. -/
inductive Hb where
  | drop
  | whole
  | row (l : List Hv)

def deep : Nat := 4

def sameEntries : List (SV × SV × Nat) → List (SV × SV × Nat) → Bool
  | [], [] => true
  | x :: xs, y :: ys => x.1.alike y.1 && (x.2.1.alike y.2.1 && (Nat.beq x.2.2 y.2.2 && sameEntries xs ys))
  | _, _ => false

theorem sameEntries_eq : ∀ {x y : List (SV × SV × Nat)}, sameEntries x y = true → x = y
  | [], [], _ => rfl
  | x :: xs, y :: ys, h => by
    simp only [sameEntries, Bool.and_eq_true] at h
    obtain ⟨a, b, c⟩ := x
    obtain ⟨a', b', c'⟩ := y
    have h1 := alike_eq h.1
    have h2 := alike_eq h.2.1
    have h3 := Nat.eq_of_beq_eq_true h.2.2.1
    simp only at h1 h2 h3
    rw [h1, h2, h3, sameEntries_eq h.2.2.2]
  | [], _ :: _, h => by cases h
  | _ :: _, [], h => by cases h

def sameExt : Option (Nat × Nat) → Option (Nat × Nat) → Bool
  | none, none => true
  | some a, some b => Nat.beq a.1 b.1 && Nat.beq a.2 b.2
  | _, _ => false

theorem sameExt_eq {x y : Option (Nat × Nat)} (h : sameExt x y = true) : x = y := by
  unfold sameExt at h
  split at h
  · rfl
  · rename_i a b
    obtain ⟨a1, a2⟩ := a
    obtain ⟨b1, b2⟩ := b
    simp only [Bool.and_eq_true] at h
    rw [Nat.eq_of_beq_eq_true h.1, Nat.eq_of_beq_eq_true h.2]
  · cases h

def natsSame : List Nat → List Nat → Bool
  | [], [] => true
  | x :: xs, y :: ys => Nat.beq x y && natsSame xs ys
  | _, _ => false

theorem natsSame_eq : ∀ {x y : List Nat}, natsSame x y = true → x = y
  | [], [], _ => rfl
  | x :: xs, y :: ys, h => by
    simp only [natsSame, Bool.and_eq_true] at h
    rw [Nat.eq_of_beq_eq_true h.1, natsSame_eq h.2]
  | [], _ :: _, h => by cases h
  | _ :: _, [], h => by cases h

/-- The same block, but for rows. -/
def sameObj : SObj → SObj → Bool
  | .map a c, .map b d => sameEntries a b && Nat.beq c d
  | .siter s p, .siter t q => s.data.toList == t.data.toList && Nat.beq p q
  | .miter a b c d, .miter e f g h => (match a, e with | none, none => true | some x, some y => Nat.beq x y | _, _ => false) && (Nat.beq b f && (natsSame c g && Nat.beq d h))
  | _, _ => false

theorem sameObj_eq {x y : SObj} (h : sameObj x y = true) : x = y := by
  unfold sameObj at h
  split at h
  · simp only [Bool.and_eq_true] at h; rw [sameEntries_eq h.1, Nat.eq_of_beq_eq_true h.2]
  · rename_i s p t q
    simp only [Bool.and_eq_true, beq_iff_eq] at h
    have : s = t := by cases s; cases t; simp only [ByteArray.mk.injEq]; exact Array.ext' h.1
    rw [this, Nat.eq_of_beq_eq_true h.2]
  · rename_i a b c d e f g k
    simp only [Bool.and_eq_true] at h
    obtain ⟨h1, h2, h3, h4⟩ := h
    rw [Nat.eq_of_beq_eq_true h2, natsSame_eq h3, Nat.eq_of_beq_eq_true h4]
    split at h1
    · rfl
    · rw [Nat.eq_of_beq_eq_true h1]
    · cases h1
  · cases h

def diffOb (S S' : St) (o : SObj) (o' : Option SObj) : Hb :=
  match o, o' with
  | .row cs e wr ext, some (.row cs' e' wr' ext') =>
    bif Nat.beq e e' && (wr == wr' && (sameExt ext ext' && Nat.beq cs.length cs'.length)) then .row ((cs.zip cs').map fun p => diffHv S S' deep p.1 p.2) else .drop
  | o, some o' => bif sameObj o o' then .whole else .drop
  | _, none => .drop

def joinOb : Hb → Hb → Hb
  | .row a, .row b => bif Nat.beq a.length b.length then .row ((a.zip b).map fun p => joinHv deep p.1 p.2) else .drop
  | .whole, .whole => .whole
  | _, _ => .drop

/-- What is kept, and what not. -/
structure Tpl where
  ts : List Hv
  heap : List Hb

def keepAll (ts : List SV) (S : St) : Tpl :=
  { ts := ts.map fun _ => .keep, heap := S.heap.map fun p => match p.2 with
    | .row cs _ _ _ => .row (cs.map fun _ => .keep)
    | _ => .whole }

def diffTpl (ts : List SV) (S : St) (ts' : List SV) (S' : St) : Tpl :=
  { ts := (ts.zip ts').map fun p => diffHv S S' deep p.1 p.2, heap := S.heap.map fun p => diffOb S S' p.2 (find p.1 S'.heap) }

def joinTpl (a b : Tpl) : Tpl :=
  { ts := (a.ts.zip b.ts).map fun p => joinHv deep p.1 p.2, heap := (a.heap.zip b.heap).map fun p => joinOb p.1 p.2 }

/-- All templates of the head's places that are counted, in order. -/
def Tpl.all (T : Tpl) : List Hv := T.ts ++ T.heap.flatMap fun b => match b with
  | .row l => l
  | _ => []

def instL (l : List (Hv × SV)) (n : Nat) : List SV × Nat :=
  let r := l.foldl (fun (acc : List SV × Nat) p => let q := instHv deep p.1 p.2 acc.2; (q.1 :: acc.1, q.2)) ([], n)
  (r.1.reverse, r.2)

def instHeap : List (Hb × Nat × SObj) → Nat → List (Nat × SObj) × Nat
  | [], n => ([], n)
  | (b, id, o) :: r, n => match b, o with
    | .row l, .row cs e wr ext =>
      let q := instL (l.zip cs) n
      let t := instHeap r q.2
      ((id, .row q.1 e wr ext) :: t.1, t.2)
    | .whole, o => let t := instHeap r n; ((id, o) :: t.1, t.2)
    | _, _ => instHeap r n

def enumS (n : Nat) : List Sort_ → List (Nat × Sort_)
  | [] => []
  | t :: r => (n, t) :: enumS (n + 1) r

/-- The head's lists that are counted. -/
def Tpl.lists (T : Tpl) (n : Nat) : List LEnt :=
  ((T.all.foldl (fun (acc : List (Nat × TypeId × List Sort_) × Nat) h => (acc.1 ++ listsHv deep h acc.2, acc.2 + (sortsHv deep h).length)) ([], n)).1).map fun p => { s := p.1, x := p.1 + 1, e := p.2.1, lay := p.2.2, own := true }

/-- A list that is as it was. -/
def listKept (ls : List LEnt) (l : LEnt) : Bool := !l.own || (match listAt l.s ls with
  | some m => Nat.beq m.x l.x && (m.own && (Nat.beq m.e l.e && Nat.beq m.lay.length l.lay.length))
  | none => false)

def headSt (T : Tpl) (kept : List LEnt) (ts : List SV) (S : St) : List SV × St :=
  let a := instL (T.ts.zip ts) S.nsym
  let b := instHeap ((T.heap.zip S.heap).map fun p => (p.1, p.2.1, p.2.2)) a.2
  let hs := T.all.flatMap (sortsHv deep)
  (a.1, { S with nsym := S.nsym + hs.length, sorts := enumS S.nsym hs ++ S.sorts, heap := b.1, lists := T.lists S.nsym ++ kept })

/-- What the head's unknowns stand for, in a state that comes to the head. -/
def newVals (T : Tpl) (S : St) (ts' : List SV) (S' : St) : Option (List SV) :=
  match bindL (T.ts.zip ts') fun p => valsHv S' deep p.1 p.2 with
  | none => none
  | some a => match bindL (T.heap.zip S.heap) fun p => match p.1 with
      | .row l => match find p.2.1 S'.heap with
        | some (.row cs _ _ _) => bindL (l.zip cs) fun q => valsHv S' deep q.1 q.2
        | _ => none
      | _ => some [] with
    | none => none
    | some b => some (a ++ b)

/-! ### The check: a state is one of the head's -/
mutual
def align (N : Nat) (nv : List SV) : SV → SV → Bool
  | .sym n, y => bif Nat.ble N n then (match nv[n - N]? with
    | some x => x.alike y
    | none => false) else SV.alike (.sym n) y
  | .agg xs, .agg ys => alignL N nv xs ys
  | .agg xs, .val (.agg ys) => alignL N nv xs (ys.toList.map .val)
  | x, y => x.alike y
def alignL (N : Nat) (nv : List SV) : List SV → List SV → Bool
  | [], [] => true
  | x :: xs, y :: ys => align N nv x y && alignL N nv xs ys
  | _, _ => false
end

def alignObj (N : Nat) (nv : List SV) : SObj → SObj → Bool
  | .row cs e wr ext, .row cs' e' wr' ext' => Nat.beq e e' && (wr == wr' && (sameExt ext ext' && alignL N nv cs cs'))
  | o, o' => sameObj o o'

def alignHeap (N : Nat) (nv : List SV) (S S' : St) : List (Nat × SObj) → Bool
  | [] => true
  | (id, o) :: r => (match find id S'.heap, find id S.heap with
    | some o', some _ => alignObj N nv o o'
    | _, _ => false) && alignHeap N nv S S' r

/-- A counted list, and which list of the state it is. -/
def alignList (N : Nat) (nv : List SV) (S' : St) (l : LEnt) : Option (Option Nat) :=
  bif Nat.ble N l.s && (l.own && Nat.blt 0 l.lay.length) then
    match nv[l.s - N]?, nv[l.x - N]? with
    | some (.sym n), some (.sym x) => match listAt n S'.lists with
      | some m => bif Nat.ble N l.x && (m.own && (Nat.beq m.x x && (Nat.beq m.e l.e && sameSos m.lay l.lay))) then some (some n) else none
      | none => none
    | some y, some (.val (.agg a)) => bif Nat.ble N l.x && (isNilS y && Nat.beq a.size 0) then some none else none
    | _, _ => none
  else none

def sameIn (ls : List LEnt) (l : LEnt) : Bool := match listAt l.s ls with
  | some m => Nat.beq m.x l.x && (Nat.beq m.e l.e && (m.own == l.own && sameSos m.lay l.lay))
  | none => false

/-- The lists at the head, each: one of the state's, no two the same. -/
def alignLists (N : Nat) (nv : List SV) (S S' : St) : List LEnt → Option (List Nat)
  | [] => some []
  | l :: r => match alignLists N nv S S' r with
    | none => none
    | some used => bif Nat.blt l.s N then
        (bif listKept S'.lists l && sameIn S.lists l then
          (bif l.own then (bif isInN l.s used then none else some (l.s :: used)) else some used) else none)
      else match alignList N nv S' l with
        | some (some n) => bif isInN n used then none else some (n :: used)
        | some none => some used
        | none => none
end Go.Ev
