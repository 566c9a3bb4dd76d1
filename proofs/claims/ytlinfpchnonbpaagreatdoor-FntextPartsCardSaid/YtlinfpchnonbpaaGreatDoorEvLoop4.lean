/- Loops whose rounds are not counted: the head is found, a predicate of the user's holds there, a measure falls. -/
import Derived.Test.YtlinfpchnonbpaaGreatDoorEvSplit
import Derived.Test.YtlinfpchnonbpaaGreatDoorEvMerge
import Derived.Deep.LoopGhost
namespace Go.Ev
open Go.RowKit (Below)
def valSame : Value → Value → Bool
  | .tuple a, .tuple b => Nat.beq a.size 0 && Nat.beq b.size 0
  | .pointer (some a), .pointer (some b) => decide (a = b)
  | .func (.func f) a b, .func (.func g) c d => Nat.beq f g && (Nat.beq a.size 0 && (Nat.beq b.size 0 && (Nat.beq c.size 0 && Nat.beq d.size 0)))
  | _, _ => false
theorem arr0 {α : Type} {a : Array α} (h : Nat.beq a.size 0 = true) : a = #[] := Array.eq_empty_of_size_eq_zero (Nat.eq_of_beq_eq_true h)
theorem valSame_eq {x y : Value} (h : valSame x y = true) : x = y := by
  unfold valSame at h
  split at h
  · simp only [Bool.and_eq_true] at h; rw [arr0 h.1, arr0 h.2]
  · simp only [decide_eq_true_eq] at h; rw [h]
  · simp only [Bool.and_eq_true] at h
    rw [Nat.eq_of_beq_eq_true h.1, arr0 h.2.1, arr0 h.2.2.1, arr0 h.2.2.2.1, arr0 h.2.2.2.2]
  · cases h
def SV.alike (x y : SV) : Bool := x.same y || (match x, y with
  | .val a, .val b => valSame a b
  | .tuple a, .tuple b => sameL a b
  | _, _ => false)
theorem alike_eq {x y : SV} (h : x.alike y = true) : x = y := by
  unfold SV.alike at h
  simp only [Bool.or_eq_true] at h
  rcases h with h | h
  · exact same_eq _ _ h
  · split at h
    · rw [valSame_eq h]
    · rw [sameL_eq _ _ h]
    · cases h
def sameSo : Sort_ → Sort_ → Bool
  | .bool, .bool => true
  | .int a, .int b => decide (a = b)
  | .float a, .float b => decide (a = b)
  | .str, .str => true
  | .any, .any => true
  | .cell, .cell => true
  | _, _ => false
theorem sameSo_eq {x y : Sort_} (h : sameSo x y = true) : x = y := by
  unfold sameSo at h
  split at h
  · rfl
  · simp only [decide_eq_true_eq] at h; rw [h]
  · simp only [decide_eq_true_eq] at h; rw [h]
  · rfl
  · rfl
  · rfl
  · cases h
def sameSos : List Sort_ → List Sort_ → Bool
  | [], [] => true
  | x :: r, y :: s => bif sameSo x y then sameSos r s else false
  | _, _ => false
theorem sameSos_eq : ∀ {x y : List Sort_}, sameSos x y = true → x = y
  | [], [], _ => rfl
  | x :: r, y :: s, h => by
    simp only [sameSos] at h
    cases e : sameSo x y with
    | false => rw [e] at h; cases h
    | true => rw [e] at h; rw [sameSo_eq e, sameSos_eq (x := r) (y := s) h]
  | [], _ :: _, h => by cases h
  | _ :: _, [], h => by cases h
inductive Hv where
  | keep
  | scal (t : Sort_)
  | list (e : TypeId) (lay : List Sort_)
  | whole (ex : Bool)
  | agg (l : List Hv)
def listTag (S : St) : SV → Option (TypeId × List Sort_)
  | .sym n => match listAt n S.lists with
    | some l => bif l.own then some (l.e, l.lay) else none
    | none => none
  | _ => none
def isNilS : SV → Bool
  | .val (.slice none 0 0) => true
  | _ => false
def Wh.sure (p : Wh) : Bool := p.ex || (decide (0 < p.lo) || decide (p.hi < 0))
def diffHv (S S' : St) : Nat → SV → SV → Hv
  | 0, _, _ => .scal .any
  | d + 1, x, y => bif x.alike y then .keep else match listTag S x, listTag S' y with
    | some a, some _ => .list a.1 a.2
    | some a, none => bif isNilS y then .list a.1 a.2 else .scal .any
    | none, some b => bif isNilS x then .list b.1 b.2 else .scal .any
    | none, none => match aggOf x, aggOf y with
      | some xs, some ys => bif Nat.beq xs.length ys.length then .agg ((xs.zip ys).map fun p => diffHv S S' d p.1 p.2) else .scal .any
      | _, _ => match wholeOf S x, wholeOf S' y with
        | some p, some q => .whole (p.sure && q.sure)
        | _, _ => match kindS S x, kindS S' y with
        | some k, some k' => bif sameSo k.sort k'.sort then .scal k.sort else .scal .any
        | _, _ => .scal .any
def joinHv : Nat → Hv → Hv → Hv
  | _, .keep, h => h
  | _, h, .keep => h
  | _, .scal a, .scal b => bif sameSo a b then .scal a else .scal .any
  | _, .list e l, .list _ _ => .list e l
  | _, .whole a, .whole b => .whole (a && b)
  | _, .whole _, .scal t => bif sameSo t (.float .f64) then .scal t else .scal .any
  | _, .scal t, .whole _ => bif sameSo t (.float .f64) then .scal t else .scal .any
  | d + 1, .agg a, .agg b => bif Nat.beq a.length b.length then .agg ((a.zip b).map fun p => joinHv d p.1 p.2) else .scal .any
  | _, _, _ => .scal .any
def instHv : Nat → Hv → SV → Nat → SV × Nat
  | _, .keep, x, n => (x, n)
  | _, .scal _, _, n => (.sym n, n + 1)
  | _, .list _ _, _, n => (.sym n, n + 2)
  | _, .whole _, _, n => (.sym (n + 1), n + 2)
  | 0, .agg _, _, n => (.val undef, n)
  | d + 1, .agg l, x, n => match aggOf x with
    | some xs =>
      let r := (l.zip xs).foldl (fun (acc : List SV × Nat) p => let q := instHv d p.1 p.2 acc.2; (q.1 :: acc.1, q.2)) ([], n)
      (.agg r.1.reverse, r.2)
    | none => (.val undef, n)
def sortsHv : Nat → Hv → List Sort_
  | _, .keep => []
  | _, .scal t => [t]
  | _, .list _ _ => [.cell, .any]
  | _, .whole _ => [.intIn .i64 (some (-9007199254740992)) (some 9007199254740992), .float .f64]
  | 0, .agg _ => []
  | d + 1, .agg l => l.flatMap (sortsHv d)
def listsHv : Nat → Hv → Nat → List (Nat × TypeId × List Sort_)
  | _, .keep, _ => []
  | _, .scal _, _ => []
  | _, .list e lay, n => [(n, e, lay)]
  | _, .whole _, _ => []
  | 0, .agg _, _ => []
  | d + 1, .agg l, n => (l.foldl (fun (acc : List (Nat × TypeId × List Sort_) × Nat) h => (acc.1 ++ listsHv d h acc.2, acc.2 + (sortsHv d h).length)) ([], n)).1
def factsHv : Nat → Hv → Nat → List Fact_
  | _, .whole ex, n => [⟨bif ex then .i2f .f64 else .whole, [.sym n], .sym (n + 1)⟩]
  | 0, .agg _, _ => []
  | d + 1, .agg l, n => (l.foldl (fun (acc : List Fact_ × Nat) h => (acc.1 ++ factsHv d h acc.2, acc.2 + (sortsHv d h).length)) ([], n)).1
  | _, _, _ => []
def listVals (S : St) (y : SV) : Option (List SV) :=
  match y with
  | .sym n => match listAt n S.lists with
    | some l => some [.sym n, .sym l.x]
    | none => none
  | y => bif isNilS y then some [y, .val (.agg #[])] else none
def valsHv (S : St) : Nat → Hv → SV → Option (List SV)
  | _, .keep, _ => some []
  | _, .scal _, y => some [y]
  | _, .list _ _, y => listVals S y
  | _, .whole _, y => match wholeOf S y with
    | some p => some [p.n, y]
    | none => none
  | 0, .agg _, _ => none
  | d + 1, .agg l, y => match aggOf y with
    | some ys => bif Nat.beq l.length ys.length then bindL (l.zip ys) fun p => valsHv S d p.1 p.2 else none
    | none => none
inductive Hb where
  | drop
  | whole
  | row (l : List Hv)
def deep : Nat := 4
def sameEntries : List (SV × SV × Nat) → List (SV × SV × Nat) → Bool
  | [], [] => true
  | x :: xs, y :: ys => x.1.alike y.1 && (x.2.1.alike y.2.1 && (Nat.beq x.2.2 y.2.2 && sameEntries xs ys))
  | _, _ => false
theorem sameEntries_eq : ∀ {x y : List (SV × SV × Nat)}, sameEntries x y = true → x = y
  | [], [], _ => rfl
  | x :: xs, y :: ys, h => by
    simp only [sameEntries, Bool.and_eq_true] at h
    obtain ⟨a, b, c⟩ := x
    obtain ⟨a', b', c'⟩ := y
    have h1 := alike_eq h.1
    have h2 := alike_eq h.2.1
    have h3 := Nat.eq_of_beq_eq_true h.2.2.1
    simp only at h1 h2 h3
    rw [h1, h2, h3, sameEntries_eq h.2.2.2]
  | [], _ :: _, h => by cases h
  | _ :: _, [], h => by cases h
def sameExt : Option (Nat × Nat) → Option (Nat × Nat) → Bool
  | none, none => true
  | some a, some b => Nat.beq a.1 b.1 && Nat.beq a.2 b.2
  | _, _ => false
theorem sameExt_eq {x y : Option (Nat × Nat)} (h : sameExt x y = true) : x = y := by
  unfold sameExt at h
  split at h
  · rfl
  · rename_i a b
    obtain ⟨a1, a2⟩ := a
    obtain ⟨b1, b2⟩ := b
    simp only [Bool.and_eq_true] at h
    rw [Nat.eq_of_beq_eq_true h.1, Nat.eq_of_beq_eq_true h.2]
  · cases h
def natsSame : List Nat → List Nat → Bool
  | [], [] => true
  | x :: xs, y :: ys => Nat.beq x y && natsSame xs ys
  | _, _ => false
theorem natsSame_eq : ∀ {x y : List Nat}, natsSame x y = true → x = y
  | [], [], _ => rfl
  | x :: xs, y :: ys, h => by
    simp only [natsSame, Bool.and_eq_true] at h
    rw [Nat.eq_of_beq_eq_true h.1, natsSame_eq h.2]
  | [], _ :: _, h => by cases h
  | _ :: _, [], h => by cases h
def sameObj : SObj → SObj → Bool
  | .map a c, .map b d => sameEntries a b && Nat.beq c d
  | .siter s p, .siter t q => s.data.toList == t.data.toList && Nat.beq p q
  | .miter a b c d, .miter e f g h => (match a, e with | none, none => true | some x, some y => Nat.beq x y | _, _ => false) && (Nat.beq b f && (natsSame c g && Nat.beq d h))
  | _, _ => false
theorem sameObj_eq {x y : SObj} (h : sameObj x y = true) : x = y := by
  unfold sameObj at h
  split at h
  · simp only [Bool.and_eq_true] at h; rw [sameEntries_eq h.1, Nat.eq_of_beq_eq_true h.2]
  · rename_i s p t q
    simp only [Bool.and_eq_true, beq_iff_eq] at h
    have : s = t := by cases s; cases t; simp only [ByteArray.mk.injEq]; exact Array.ext' h.1
    rw [this, Nat.eq_of_beq_eq_true h.2]
  · rename_i a b c d e f g k
    simp only [Bool.and_eq_true] at h
    obtain ⟨h1, h2, h3, h4⟩ := h
    rw [Nat.eq_of_beq_eq_true h2, natsSame_eq h3, Nat.eq_of_beq_eq_true h4]
    split at h1
    · rfl
    · rw [Nat.eq_of_beq_eq_true h1]
    · cases h1
  · cases h
def diffOb (S S' : St) (o : SObj) (o' : Option SObj) : Hb :=
  match o, o' with
  | .row cs e wr ext, some (.row cs' e' wr' ext') =>
    bif Nat.beq e e' && (wr == wr' && (sameExt ext ext' && Nat.beq cs.length cs'.length)) then .row ((cs.zip cs').map fun p => diffHv S S' deep p.1 p.2) else .drop
  | o, some o' => bif sameObj o o' then .whole else .drop
  | _, none => .drop
def joinOb : Hb → Hb → Hb
  | .row a, .row b => bif Nat.beq a.length b.length then .row ((a.zip b).map fun p => joinHv deep p.1 p.2) else .drop
  | .whole, .whole => .whole
  | _, _ => .drop
structure Tpl where
  ts : List Hv
  heap : List Hb
  inp : List Nat := []
def keepAll (ts : List SV) (S : St) : Tpl :=
  { ts := ts.map fun _ => .keep, heap := S.heap.map fun p => match p.2 with
    | .row cs _ _ _ => .row (cs.map fun _ => .keep)
    | _ => .whole }
def inPlace (ls : List LEnt) (l : LEnt) : Bool := l.own && (match listAt l.s ls with
  | some m => !(Nat.beq m.x l.x) && (m.own && (Nat.beq m.e l.e && Nat.beq m.lay.length l.lay.length))
  | none => false)
def diffTpl (ts : List SV) (S : St) (ts' : List SV) (S' : St) : Tpl :=
  { ts := (ts.zip ts').map fun p => diffHv S S' deep p.1 p.2, heap := S.heap.map fun p => diffOb S S' p.2 (find p.1 S'.heap), inp := (S.lists.filter (inPlace S'.lists)).map (·.s) }
def joinNats (a : List Nat) : List Nat → List Nat
  | [] => a
  | n :: r => bif isInN n a then joinNats a r else joinNats (a ++ [n]) r
def joinTpl (a b : Tpl) : Tpl :=
  { ts := (a.ts.zip b.ts).map fun p => joinHv deep p.1 p.2, heap := (a.heap.zip b.heap).map fun p => joinOb p.1 p.2, inp := joinNats a.inp b.inp }
def Tpl.all (T : Tpl) : List Hv := T.ts ++ T.heap.flatMap fun b => match b with
  | .row l => l
  | _ => []
def instL (l : List (Hv × SV)) (n : Nat) : List SV × Nat :=
  let r := l.foldl (fun (acc : List SV × Nat) p => let q := instHv deep p.1 p.2 acc.2; (q.1 :: acc.1, q.2)) ([], n)
  (r.1.reverse, r.2)
def instHeap : List (Hb × Nat × SObj) → Nat → List (Nat × SObj) × Nat
  | [], n => ([], n)
  | (b, id, o) :: r, n => match b, o with
    | .row l, .row cs e wr ext =>
      let q := instL (l.zip cs) n
      let t := instHeap r q.2
      ((id, .row q.1 e wr ext) :: t.1, t.2)
    | .whole, o => let t := instHeap r n; ((id, o) :: t.1, t.2)
    | _, _ => instHeap r n
def enumS (n : Nat) : List Sort_ → List (Nat × Sort_)
  | [] => []
  | t :: r => (n, t) :: enumS (n + 1) r
def Tpl.lists (T : Tpl) (n : Nat) : List LEnt :=
  ((T.all.foldl (fun (acc : List (Nat × TypeId × List Sort_) × Nat) h => (acc.1 ++ listsHv deep h acc.2, acc.2 + (sortsHv deep h).length)) ([], n)).1).map fun p => { s := p.1, x := p.1 + 1, e := p.2.1, lay := p.2.2, own := true }
def listKept (ls : List LEnt) (l : LEnt) : Bool := !l.own || (match listAt l.s ls with
  | some m => Nat.beq m.x l.x && (m.own && (Nat.beq m.e l.e && Nat.beq m.lay.length l.lay.length))
  | none => false)
def Tpl.sorts (T : Tpl) : List Sort_ := T.all.flatMap (sortsHv deep) ++ List.replicate T.inp.length .any
def inpLists (ls : List LEnt) : List Nat → Nat → List LEnt
  | [], _ => []
  | s :: r, n => match listAt s ls with
    | some l => { l with x := n } :: inpLists ls r (n + 1)
    | none => inpLists ls r (n + 1)
def inpVals (ls : List LEnt) : List Nat → Option (List SV)
  | [] => some []
  | s :: r => match listAt s ls, inpVals ls r with
    | some l, some v => some (.sym l.x :: v)
    | _, _ => none
def Tpl.facts (T : Tpl) (n : Nat) : List Fact_ :=
  (T.all.foldl (fun (acc : List Fact_ × Nat) h => (acc.1 ++ factsHv deep h acc.2, acc.2 + (sortsHv deep h).length)) ([], n)).1
def tighten (bds : List (Nat × Int × Int)) : Nat → List Sort_ → List Sort_
  | _, [] => []
  | j, t :: r => (match find j bds, t with
    | some (lo, hi), .int k => .intIn k (some lo) (some hi)
    | some (lo, hi), .intIn k _ _ => .intIn k (some lo) (some hi)
    | _, t => t) :: tighten bds (j + 1) r
def factsFit (N : Nat) (nv : List SV) (S' : St) : List Fact_ → Bool
  | [] => true
  | q :: r => (match q with
    | ⟨op, [.sym a], .sym b⟩ => Nat.ble N a && (Nat.ble N b && (match nv[a - N]?, nv[b - N]? with
      | some x, some y => match wholeOf S' y with
        | some p => p.n.alike x && (match op with
          | .i2f .f64 => p.sure
          | .whole => true
          | _ => false)
        | none => false
      | _, _ => false))
    | _ => false) && factsFit N nv S' r
def headSt (T : Tpl) (hs : List Sort_) (kept : List LEnt) (ts : List SV) (S : St) : List SV × St :=
  let a := instL (T.ts.zip ts) S.nsym
  let b := instHeap ((T.heap.zip S.heap).map fun p => (p.1, p.2.1, p.2.2)) a.2
  (a.1, { S with nsym := S.nsym + hs.length, sorts := enumS S.nsym hs ++ S.sorts, heap := b.1, lists := T.lists S.nsym ++ (inpLists S.lists T.inp (S.nsym + (T.all.flatMap (sortsHv deep)).length) ++ kept), facts := T.facts S.nsym ++ S.facts })
def newVals (T : Tpl) (S : St) (ts' : List SV) (S' : St) : Option (List SV) :=
  match bindL (T.ts.zip ts') fun p => valsHv S' deep p.1 p.2 with
  | none => none
  | some a => match bindL (T.heap.zip S.heap) fun p => match p.1 with
      | .row l => match find p.2.1 S'.heap with
        | some (.row cs _ _ _) => bindL (l.zip cs) fun q => valsHv S' deep q.1 q.2
        | _ => none
      | _ => some [] with
    | none => none
    | some b => match inpVals S'.lists T.inp with
      | none => none
      | some c => some (a ++ (b ++ c))
mutual
def align (N : Nat) (nv : List SV) : SV → SV → Bool
  | .sym n, y => bif Nat.ble N n then (match nv[n - N]? with
    | some x => x.alike y
    | none => false) else SV.alike (.sym n) y
  | .agg xs, .agg ys => alignL N nv xs ys
  | .agg xs, .val (.agg ys) => alignL N nv xs (ys.toList.map .val)
  | x, y => x.alike y
def alignL (N : Nat) (nv : List SV) : List SV → List SV → Bool
  | [], [] => true
  | x :: xs, y :: ys => align N nv x y && alignL N nv xs ys
  | _, _ => false
end
def alignObj (N : Nat) (nv : List SV) : SObj → SObj → Bool
  | .row cs e wr ext, .row cs' e' wr' ext' => Nat.beq e e' && (wr == wr' && (sameExt ext ext' && alignL N nv cs cs'))
  | o, o' => sameObj o o'
def alignHeap (N : Nat) (nv : List SV) (S S' : St) : List (Nat × SObj) → Bool
  | [] => true
  | (id, o) :: r => (match find id S'.heap, find id S.heap with
    | some o', some _ => alignObj N nv o o'
    | _, _ => false) && alignHeap N nv S S' r
def alignList (N : Nat) (nv : List SV) (S' : St) (l : LEnt) : Option (Option Nat) :=
  bif Nat.ble N l.s && (l.own && Nat.blt 0 l.lay.length) then
    match nv[l.s - N]?, nv[l.x - N]? with
    | some (.sym n), some (.sym x) => match listAt n S'.lists with
      | some m => bif Nat.ble N l.x && (m.own && (Nat.beq m.x x && (Nat.beq m.e l.e && sameSos m.lay l.lay))) then some (some n) else none
      | none => none
    | some y, some (.val (.agg a)) => bif Nat.ble N l.x && (isNilS y && Nat.beq a.size 0) then some none else none
    | _, _ => none
  else none
def sameIn (ls : List LEnt) (l : LEnt) : Bool := match listAt l.s ls with
  | some m => Nat.beq m.x l.x && (Nat.beq m.e l.e && (m.own == l.own && sameSos m.lay l.lay))
  | none => false
def alignIn (N : Nat) (nv : List SV) (S S' : St) (l : LEnt) : Bool :=
  (match listAt l.s S.lists with
  | some _ => true
  | none => false) && (l.own && (Nat.blt 0 l.lay.length && (match nv[l.x - N]?, listAt l.s S'.lists with
    | some (.sym x), some m => Nat.beq m.x x && (m.own && (Nat.beq m.e l.e && sameSos m.lay l.lay))
    | _, _ => false)))
def alignLists (N : Nat) (nv : List SV) (S S' : St) : List LEnt → Option (List Nat)
  | [] => some []
  | l :: r => match alignLists N nv S S' r with
    | none => none
    | some used => bif Nat.blt l.s N && Nat.ble N l.x then
        (bif alignIn N nv S S' l then (bif isInN l.s used then none else some (l.s :: used)) else none)
      else bif Nat.blt l.s N then
        (bif listKept S'.lists l && sameIn S.lists l then
          (bif l.own then (bif isInN l.s used then none else some (l.s :: used)) else some used) else none)
      else match alignList N nv S' l with
        | some (some n) => bif isInN n used then none else some (n :: used)
        | some none => some used
        | none => none
end Go.Ev
namespace Go.Ev
open Go.RowKit (Below)
def Env.unks (E : Env) (N : Nat) (hv : List Value) : Env := { E with σ := fun i => bif Nat.ble N i then hv[i - N]? else E.σ i }
theorem unks_old (E : Env) {N i : Nat} (hv : List Value) (h : i < N) : (E.unks N hv).σ i = E.σ i := by
  have : Nat.ble N i = false := by rw [← Bool.not_eq_true]; exact fun e => by have := Nat.le_of_ble_eq_true e; omega
  simp [Env.unks, this]
theorem unks_new (E : Env) {N i : Nat} (hv : List Value) (h : N ≤ i) : (E.unks N hv).σ i = hv[i - N]? := by
  have : Nat.ble N i = true := Nat.ble_eq_true_of_le h
  simp [Env.unks, this]
theorem unks_le (E : Env) {N : Nat} (hv : List Value) (h : ∀ i, N ≤ i → E.σ i = none) : E.le (E.unks N hv) :=
  { ρ := fun _ _ h => h
    σ := fun i c hi => by
      rcases Nat.lt_or_ge i N with hl | hg
      · rw [unks_old E hv hl]; exact hi
      · rw [h i hg] at hi; cases hi
    κ := fun _ _ h => h }
mutual
def Known_ (E : Env) (N : Nat) : SV → Prop
  | .sym n => N ≤ n ∨ ∃ u, E.σ n = some u
  | .agg xs => KnownL E N xs
  | .val v => ∃ u, (SV.val v).den E = some u
  | .ptr a b => ∃ u, (SV.ptr a b).den E = some u
  | .slice a b c d => ∃ u, (SV.slice a b c d).den E = some u
  | .map a => ∃ u, (SV.map a).den E = some u
  | .func a b c => ∃ u, (SV.func a b c).den E = some u
  | .iface a b => ∃ u, (SV.iface a b).den E = some u
  | .tuple a => ∃ u, (SV.tuple a).den E = some u
def KnownL (E : Env) (N : Nat) : List SV → Prop
  | [] => True
  | x :: r => Known_ E N x ∧ KnownL E N r
end
section
variable {E F : Env} {N : Nat} {nv : List SV} {hv : List Value}
theorem alike_known {c y : SV} (h : c.alike y = true) {u : Value} (hu : y.den E = some u) : c.den E = some u := by rw [alike_eq h]; exact hu
mutual
theorem align_known : ∀ (c y : SV) (u : Value), align N nv c y = true → y.den E = some u → Known_ E N c
  | .sym n, y, u, h, hu => by
    simp only [align] at h
    simp only [Known_]
    cases e : Nat.ble N n with
    | true => exact .inl (Nat.le_of_ble_eq_true e)
    | false =>
      rw [e] at h
      have := alike_known h hu
      simp only [SV.den] at this
      exact .inr ⟨u, this⟩
  | .agg xs, .agg ys, u, h, hu => by
    simp only [align] at h
    obtain ⟨l, hl, rfl⟩ := agg_den hu
    simp only [Known_]
    exact alignL_known xs ys l h hl
  | .agg xs, .val (.agg ys), u, h, hu => by
    simp only [align] at h
    simp only [Known_]
    exact alignL_known xs _ ys.toList h (denL_vals _)
  | .agg xs, .sym _, u, h, hu => by simp only [align] at h; have := alike_eq h; cases this
  | .agg xs, .ptr _ _, u, h, hu => by simp only [align] at h; have := alike_eq h; cases this
  | .agg xs, .slice _ _ _ _, u, h, hu => by simp only [align] at h; have := alike_eq h; cases this
  | .agg xs, .map _, u, h, hu => by simp only [align] at h; have := alike_eq h; cases this
  | .agg xs, .func _ _ _, u, h, hu => by simp only [align] at h; have := alike_eq h; cases this
  | .agg xs, .iface _ _, u, h, hu => by simp only [align] at h; have := alike_eq h; cases this
  | .agg xs, .tuple _, u, h, hu => by simp only [align] at h; have := alike_eq h; cases this
  | .agg xs, .val v, u, h, hu => by
    cases v with
    | agg ys =>
      simp only [align] at h
      simp only [Known_]
      exact alignL_known xs _ ys.toList h (denL_vals _)
    | _ => simp only [align] at h; have := alike_eq h; cases this
  | .val v, y, u, h, hu => by simp only [align] at h; simp only [Known_]; exact ⟨u, alike_known h hu⟩
  | .ptr a b, y, u, h, hu => by simp only [align] at h; simp only [Known_]; exact ⟨u, alike_known h hu⟩
  | .slice a b c d, y, u, h, hu => by simp only [align] at h; simp only [Known_]; exact ⟨u, alike_known h hu⟩
  | .map a, y, u, h, hu => by simp only [align] at h; simp only [Known_]; exact ⟨u, alike_known h hu⟩
  | .func a b c, y, u, h, hu => by simp only [align] at h; simp only [Known_]; exact ⟨u, alike_known h hu⟩
  | .iface a b, y, u, h, hu => by simp only [align] at h; simp only [Known_]; exact ⟨u, alike_known h hu⟩
  | .tuple a, y, u, h, hu => by simp only [align] at h; simp only [Known_]; exact ⟨u, alike_known h hu⟩
theorem alignL_known : ∀ (xs ys : List SV) (l : List Value), alignL N nv xs ys = true → SV.denL E ys = some l → KnownL E N xs
  | [], [], _, _, _ => by simp only [KnownL]
  | x :: xs, y :: ys, l, h, hl => by
    simp only [alignL, Bool.and_eq_true] at h
    obtain ⟨v, l', h1, h2, rfl⟩ := denL_cons hl
    simp only [KnownL]
    exact ⟨align_known x y v h.1 h1, alignL_known xs ys l' h.2 h2⟩
  | [], _ :: _, _, h, _ => by simp [alignL] at h
  | _ :: _, [], _, h, _ => by simp [alignL] at h
end
theorem known_den (hE : E.le F) {x : SV} (hx : ∃ u, x.den E = some u) {v : Value} (hv : x.den F = some v) {G : Env} (hG : E.le G) : x.den G = some v := by
  obtain ⟨u, hu⟩ := hx
  have := SV.den_mono hE _ _ hu
  rw [hv] at this; cases this
  exact SV.den_mono hG _ _ hu
mutual
theorem align_den (hE : E.le F) (hN : ∀ i, N ≤ i → E.σ i = none) (hnv : SV.denL F nv = some hv) : ∀ (c y : SV) (v : Value), align N nv c y = true → Known_ E N c → y.den F = some v → c.den (E.unks N hv) = some v
  | .sym n, y, v, h, hk, hy => by
    simp only [align] at h
    simp only [SV.den]
    cases e : Nat.ble N n with
    | true =>
      rw [e] at h
      simp only [cond_true] at h
      rw [unks_new E hv (Nat.le_of_ble_eq_true e)]
      split at h
      · rename_i x hx
        obtain ⟨u, hu, hd⟩ := denL_get hnv hx
        rw [alike_eq h, hy] at hd
        rw [hu, ← hd]
      · cases h
    | false =>
      rw [e] at h
      simp only [cond_false] at h
      have hy' := alike_known h hy
      simp only [SV.den] at hy'
      have hn : n < N := by
        rcases Nat.lt_or_ge n N with h' | h'
        · exact h'
        · rw [Nat.ble_eq_true_of_le h'] at e; cases e
      rw [unks_old E hv hn]
      simp only [Known_] at hk
      rcases hk with hk | ⟨u, hu⟩
      · omega
      · have := hE.σ _ _ hu
        rw [hy'] at this; cases this
        exact hu
  | .agg xs, .agg ys, v, h, hk, hy => by
    simp only [align] at h
    obtain ⟨l, hl, rfl⟩ := agg_den hy
    simp only [Known_] at hk
    simp only [SV.den, alignL_den hE hN hnv xs ys l h hk hl]
  | .agg xs, .val u, v, h, hk, hy => by
    cases u with
    | agg ys =>
      simp only [align] at h
      simp only [Known_] at hk
      simp only [SV.den, Option.some.injEq] at hy; subst hy
      simp only [SV.den, alignL_den hE hN hnv xs _ ys.toList h hk (denL_vals _)]
    | _ => simp only [align] at h; have := alike_eq h; cases this
  | .agg xs, .sym _, v, h, hk, hy => by simp only [align] at h; have := alike_eq h; cases this
  | .agg xs, .ptr _ _, v, h, hk, hy => by simp only [align] at h; have := alike_eq h; cases this
  | .agg xs, .slice _ _ _ _, v, h, hk, hy => by simp only [align] at h; have := alike_eq h; cases this
  | .agg xs, .map _, v, h, hk, hy => by simp only [align] at h; have := alike_eq h; cases this
  | .agg xs, .func _ _ _, v, h, hk, hy => by simp only [align] at h; have := alike_eq h; cases this
  | .agg xs, .iface _ _, v, h, hk, hy => by simp only [align] at h; have := alike_eq h; cases this
  | .agg xs, .tuple _, v, h, hk, hy => by simp only [align] at h; have := alike_eq h; cases this
  | .val u, y, v, h, hk, hy => by simp only [align] at h; simp only [Known_] at hk; exact known_den hE hk (alike_known h hy) (unks_le E hv hN)
  | .ptr a b, y, v, h, hk, hy => by simp only [align] at h; simp only [Known_] at hk; exact known_den hE hk (alike_known h hy) (unks_le E hv hN)
  | .slice a b c d, y, v, h, hk, hy => by simp only [align] at h; simp only [Known_] at hk; exact known_den hE hk (alike_known h hy) (unks_le E hv hN)
  | .map a, y, v, h, hk, hy => by simp only [align] at h; simp only [Known_] at hk; exact known_den hE hk (alike_known h hy) (unks_le E hv hN)
  | .func a b c, y, v, h, hk, hy => by simp only [align] at h; simp only [Known_] at hk; exact known_den hE hk (alike_known h hy) (unks_le E hv hN)
  | .iface a b, y, v, h, hk, hy => by simp only [align] at h; simp only [Known_] at hk; exact known_den hE hk (alike_known h hy) (unks_le E hv hN)
  | .tuple a, y, v, h, hk, hy => by simp only [align] at h; simp only [Known_] at hk; exact known_den hE hk (alike_known h hy) (unks_le E hv hN)
theorem alignL_den (hE : E.le F) (hN : ∀ i, N ≤ i → E.σ i = none) (hnv : SV.denL F nv = some hv) : ∀ (xs ys : List SV) (l : List Value), alignL N nv xs ys = true → KnownL E N xs → SV.denL F ys = some l → SV.denL (E.unks N hv) xs = some l
  | [], [], _, _, _, hl => by simpa only [SV.denL] using hl
  | x :: xs, y :: ys, l, h, hk, hl => by
    simp only [alignL, Bool.and_eq_true] at h
    obtain ⟨v, l', h1, h2, rfl⟩ := denL_cons hl
    simp only [KnownL] at hk
    exact denL_mk (align_den hE hN hnv x y v h.1 hk.1 h1) (alignL_den hE hN hnv xs ys l' h.2 hk.2 h2)
  | [], _ :: _, _, h, _, _ => by simp [alignL] at h
  | _ :: _, [], _, h, _, _ => by simp [alignL] at h
end
end
def KnownO (E : Env) (N : Nat) : SObj → Prop
  | .row cs _ _ ext => KnownL E N cs ∧ ∀ p, ext = some p → ∃ n, E.κ p.1 = some n
  | o => ∃ x, ORel E o x
section
variable {B G : Nat} {w0 : Start} {E F : Env} {S S' : St} {w w' : World} {N : Nat} {nv : List SV} {hv : List Value}
theorem alignObj_known {o o' : SObj} {x : Obj} (h : alignObj N nv o o' = true) (hx : ORel E o' x) : KnownO E N o := by
  unfold alignObj at h
  split at h
  · rename_i cs e wr ext cs' e' wr' ext'
    simp only [Bool.and_eq_true, beq_iff_eq] at h
    obtain ⟨h1, h2, h3, h4⟩ := h
    have h3 := sameExt_eq h3
    subst h3
    cases ext with
    | none =>
      obtain ⟨l, fz, k1, _⟩ := hx
      exact ⟨alignL_known cs cs' l h4 k1, fun p hp => by cases hp⟩
    | some q =>
      obtain ⟨i, u⟩ := q
      obtain ⟨l, r, n, fz, k1, k2, _⟩ := hx
      exact ⟨alignL_known cs cs' l h4 k1, fun p hp => by cases hp; exact ⟨n, k2⟩⟩
  · have := sameObj_eq h
    subst this
    unfold KnownO
    split
    · simp [sameObj] at h
    · exact ⟨x, hx⟩
theorem MRel_known {E F G : Env} (hE : E.le F) (hG : E.le G) : ∀ {es : List (SV × SV × Nat)} {l m : List MapEntry}, MRel E es l → MRel F es m → MRel G es m
  | [], [], [], _, _ => trivial
  | _ :: _, _ :: _, _ :: _, ⟨h1, h2, _, h4⟩, ⟨k1, k2, k3, k4⟩ => ⟨known_den hE ⟨_, h1⟩ k1 hG, known_den hE ⟨_, h2⟩ k2 hG, k3, MRel_known hE hG h4 k4⟩
  | [], _ :: _, _, h, _ => h.elim
  | _ :: _, [], _, h, _ => h.elim
  | [], _, _ :: _, _, h => h.elim
  | _ :: _, _, [], _, h => h.elim
theorem alignObj_rel (hE : E.le F) (hN : ∀ i, N ≤ i → E.σ i = none) (hnv : SV.denL F nv = some hv) {o o' : SObj} {x : Obj} (h : alignObj N nv o o' = true) (hk : KnownO E N o) (hx : ORel F o' x) : ORel (E.unks N hv) o x := by
  have hle := unks_le E hv hN
  unfold alignObj at h
  split at h
  · rename_i cs e wr ext cs' e' wr' ext'
    simp only [Bool.and_eq_true, beq_iff_eq] at h
    obtain ⟨h1, h2, h3, h4⟩ := h
    have h1 := Nat.eq_of_beq_eq_true h1
    have h3 := sameExt_eq h3
    subst h1 h2 h3
    cases ext with
    | none =>
      obtain ⟨l, fz, k1, k2⟩ := hx
      exact ⟨l, fz, alignL_den hE hN hnv cs cs' l h4 hk.1 k1, k2⟩
    | some q =>
      obtain ⟨i, u⟩ := q
      obtain ⟨l, r, n, fz, k1, k2, k3⟩ := hx
      obtain ⟨m, hm⟩ := hk.2 (i, u) rfl
      have := hE.κ _ _ hm
      rw [k2] at this; cases this
      exact ⟨l, r, n, fz, alignL_den hE hN hnv cs cs' l h4 hk.1 k1, hle.κ _ _ hm, k3⟩
  · have := sameObj_eq h
    subst this
    cases o with
    | row cs e wr ext => simp [sameObj] at h
    | map es c =>
      obtain ⟨y, l0, _, hl0⟩ := hk
      obtain ⟨l, hl1, hl2⟩ := hx
      exact ⟨l, hl1, MRel_known hE hle hl0 hl2⟩
    | siter s p => exact hx
    | bag es => simp [sameObj] at h
    | miter m a b c =>
      cases m with
      | none => exact hx
      | some id =>
        obtain ⟨y, b0, hb0, _⟩ := hk
        obtain ⟨b1, hb1, hx⟩ := hx
        have := hE.ρ _ _ hb0
        rw [hb1] at this; cases this
        exact ⟨_, hle.ρ _ _ hb0, hx⟩
theorem alignHeap_find : ∀ {l : List (Nat × SObj)}, alignHeap N nv S S' l = true → ∀ {id : Nat} {o : SObj}, find id l = some o → ∃ o' o0, find id S'.heap = some o' ∧ find id S.heap = some o0 ∧ alignObj N nv o o' = true
  | [], _, id, o, hf => by cases hf
  | (j, x) :: r, h, id, o, hf => by
    simp only [alignHeap, Bool.and_eq_true] at h
    simp only [find] at hf
    cases e : Nat.beq id j with
    | true =>
      have := Nat.eq_of_beq_eq_true e
      subst this
      rw [e] at hf
      simp only [cond_true, Option.some.injEq] at hf; subst hf
      have h1 := h.1
      split at h1
      · rename_i o' o0 h2 h3; exact ⟨o', o0, h2, h3, h1⟩
      · cases h1
    | false => rw [e] at hf; exact alignHeap_find h.2 hf
def srcOf (N : Nat) (nv : List SV) (l : LEnt) : Option Nat := bif Nat.blt l.s N then some l.s else match nv[l.s - N]? with
  | some (.sym n) => some n
  | _ => none
theorem isInN_in {i : Nat} : ∀ {l : List Nat}, i ∈ l → isInN i l = true
  | _ :: _, .head _ => by simp [isInN]
  | j :: _, .tail _ h => by
    simp only [isInN]
    cases Nat.beq i j <;> simp [isInN_in h]
def ListFits (N : Nat) (nv : List SV) (S S' : St) (l : LEnt) : Prop :=
  (l.s < N ∧ l ∈ S.lists ∧ listKept S'.lists l = true) ∨
  (l.s < N ∧ N ≤ l.x ∧ l.own = true ∧ 0 < l.lay.length ∧ (∃ l0 ∈ S.lists, l0.s = l.s) ∧ ∃ m ∈ S'.lists, m.s = l.s ∧ m.own = true ∧ m.e = l.e ∧ m.lay = l.lay ∧ nv[l.x - N]? = some (.sym m.x)) ∨
  (N ≤ l.s ∧ N ≤ l.x ∧ l.own = true ∧ 0 < l.lay.length ∧
    ((∃ m ∈ S'.lists, m.own = true ∧ m.e = l.e ∧ m.lay = l.lay ∧ nv[l.s - N]? = some (.sym m.s) ∧ nv[l.x - N]? = some (.sym m.x)) ∨
      ∃ a, nv[l.s - N]? = some (.val (.slice none 0 0)) ∧ nv[l.x - N]? = some (.val (.agg a)) ∧ a = #[]))
theorem isNilS_eq {y : SV} (h : isNilS y = true) : y = .val (.slice none 0 0) := by
  unfold isNilS at h
  split at h
  · rfl
  · cases h
theorem alignList_fits {l : LEnt} {r : Option Nat} (h : alignList N nv S' l = some r) (hge : N ≤ l.s) : ListFits N nv S S' l ∧ srcOf N nv l = r := by
  have hlt : Nat.blt l.s N = false := by rw [← Bool.not_eq_true]; exact fun e => by have : l.s < N := Nat.le_of_ble_eq_true e; omega
  unfold alignList at h
  cases hc : Nat.ble N l.s && (l.own && Nat.blt 0 l.lay.length) with
  | false => rw [hc] at h; cases h
  | true =>
    rw [hc] at h
    simp only [Bool.and_eq_true] at hc
    obtain ⟨c1, c2, c3⟩ := hc
    have c3 : 0 < l.lay.length := Nat.le_of_ble_eq_true c3
    simp only [cond_true] at h
    split at h
    · rename_i n x h1 h2
      split at h
      · rename_i m hm
        cases hb : Nat.ble N l.x && (m.own && (Nat.beq m.x x && (Nat.beq m.e l.e && sameSos m.lay l.lay))) with
        | false => rw [hb] at h; cases h
        | true =>
          rw [hb] at h
          simp only [cond_true, Option.some.injEq] at h; subst h
          simp only [Bool.and_eq_true] at hb
          obtain ⟨d1, d2, d3, d4, d5⟩ := hb
          obtain ⟨e1, e2⟩ := listAt_mem hm
          subst e2
          have d3 := Nat.eq_of_beq_eq_true d3
          subst d3
          refine ⟨.inr (.inr ⟨hge, Nat.le_of_ble_eq_true d1, c2, c3, .inl ⟨m, e1, d2, Nat.eq_of_beq_eq_true d4, sameSos_eq d5, h1, h2⟩⟩), ?_⟩
          simp only [srcOf, hlt, cond_false, h1]
      · cases h
    · rename_i y a h1 h2
      cases hb : Nat.ble N l.x && (isNilS y && Nat.beq a.size 0) with
      | false => rw [hb] at h; cases h
      | true =>
        rw [hb] at h
        simp only [cond_true, Option.some.injEq] at h; subst h
        simp only [Bool.and_eq_true] at hb
        obtain ⟨d1, d2, d3⟩ := hb
        have d2 := isNilS_eq d2
        subst d2
        refine ⟨.inr (.inr ⟨hge, Nat.le_of_ble_eq_true d1, c2, c3, .inr ⟨a, h1, h2, arr0 d3⟩⟩), ?_⟩
        simp only [srcOf, hlt, cond_false, h1]
    · cases h
theorem lent_ext {m l : LEnt} (h1 : m.s = l.s) (h2 : m.x = l.x) (h3 : m.e = l.e) (h4 : m.lay = l.lay) (h5 : m.own = l.own) : m = l := by
  obtain ⟨a, b, c, d, e⟩ := m
  obtain ⟨a', b', c', d', e'⟩ := l
  simp only at h1 h2 h3 h4 h5
  rw [h1, h2, h3, h4, h5]
theorem alignLists_ok : ∀ {ls : List LEnt} {used : List Nat}, alignLists N nv S S' ls = some used →
    (∀ l ∈ ls, ListFits N nv S S' l) ∧ (∀ l ∈ ls, l.own = true → ∀ n, srcOf N nv l = some n → n ∈ used) ∧
    ∀ l ∈ ls, l.own = true → ∀ m ∈ ls, m.own = true → ∀ n, srcOf N nv l = some n → srcOf N nv m = some n → m.s = l.s
  | [], used, h => ⟨fun _ h => (by cases h), fun _ h => (by cases h), fun _ h => (by cases h)⟩
  | l :: r, used, h => by
    simp only [alignLists] at h
    split at h
    · cases h
    rename_i used' hu
    obtain ⟨k1, k2, k3⟩ := alignLists_ok hu
    -- what remains, by what is known of the first
    have fin : ListFits N nv S S' l → (l.own = true → ∀ n, srcOf N nv l = some n → n ∈ used ∧ ¬ n ∈ used') → (∀ n ∈ used', n ∈ used) → _ := fun hf hs hsub =>
      (⟨fun m hm => by
        cases hm with
        | head => exact hf
        | tail _ hm => exact k1 m hm, fun m hm ho n hn => by
        cases hm with
        | head => exact (hs ho n hn).1
        | tail _ hm => exact hsub n (k2 m hm ho n hn), fun m hm ho m' hm' ho' n hn hn' => by
        cases hm with
        | head =>
          cases hm' with
          | head => rfl
          | tail _ hm' => exact absurd (k2 m' hm' ho' n hn') (hs ho n hn).2
        | tail _ hm =>
          cases hm' with
          | head => exact absurd (k2 m hm ho n hn) (hs ho' n hn').2
          | tail _ hm' => exact k3 m hm ho m' hm' ho' n hn hn'⟩ : (∀ m ∈ l :: r, ListFits N nv S S' m) ∧ (∀ m ∈ l :: r, m.own = true → ∀ n, srcOf N nv m = some n → n ∈ used) ∧
    ∀ m ∈ l :: r, m.own = true → ∀ m' ∈ l :: r, m'.own = true → ∀ n, srcOf N nv m = some n → srcOf N nv m' = some n → m'.s = m.s)
    cases hin2 : Nat.blt l.s N && Nat.ble N l.x with
    | true =>
      rw [hin2] at h
      simp only [cond_true] at h
      simp only [Bool.and_eq_true] at hin2
      have hlt' : l.s < N := Nat.le_of_ble_eq_true hin2.1
      have hge' : N ≤ l.x := Nat.le_of_ble_eq_true hin2.2
      cases hc : alignIn N nv S S' l with
      | false => rw [hc] at h; cases h
      | true =>
        rw [hc] at h
        simp only [cond_true] at h
        unfold alignIn at hc
        simp only [Bool.and_eq_true] at hc
        obtain ⟨c1, ho, c3, c4⟩ := hc
        have hf : ListFits N nv S S' l := by
          refine .inr (.inl ⟨hlt', hge', ho, Nat.le_of_ble_eq_true c3, ?_, ?_⟩)
          · split at c1
            · rename_i l0 hl0; exact ⟨l0, (listAt_mem hl0).1, (listAt_mem hl0).2⟩
            · cases c1
          · split at c4
            · rename_i x m hx hm
              simp only [Bool.and_eq_true] at c4
              obtain ⟨d1, d2, d3, d4⟩ := c4
              have d1 := Nat.eq_of_beq_eq_true d1
              subst d1
              exact ⟨m, (listAt_mem hm).1, (listAt_mem hm).2, d2, Nat.eq_of_beq_eq_true d3, sameSos_eq d4, hx⟩
            · cases c4
        have hsrc : srcOf N nv l = some l.s := by simp only [srcOf, hin2.1, cond_true]
        cases hin : isInN l.s used' with
        | true => rw [hin] at h; cases h
        | false =>
          rw [hin] at h
          simp only [cond_false, Option.some.injEq] at h; subst h
          refine fin hf (fun _ n hn => ?_) fun _ h => List.mem_cons_of_mem _ h
          rw [hsrc] at hn; cases hn
          exact ⟨List.mem_cons_self, fun hm => by rw [isInN_in hm] at hin; cases hin⟩
    | false =>
    rw [hin2] at h
    simp only [cond_false] at h
    cases hlt : Nat.blt l.s N with
    | true =>
      have hlt' : l.s < N := Nat.le_of_ble_eq_true hlt
      rw [hlt] at h
      simp only [cond_true] at h
      cases hc : listKept S'.lists l && sameIn S.lists l with
      | false => rw [hc] at h; cases h
      | true =>
        rw [hc] at h
        simp only [cond_true] at h
        simp only [Bool.and_eq_true] at hc
        obtain ⟨c1, c2⟩ := hc
        have hmem : l ∈ S.lists := by
          unfold sameIn at c2
          split at c2
          · rename_i m hm
            simp only [Bool.and_eq_true, beq_iff_eq] at c2
            obtain ⟨d1, d2, d3, d4⟩ := c2
            obtain ⟨e1, e2⟩ := listAt_mem hm
            rw [← lent_ext e2 (Nat.eq_of_beq_eq_true d1) (Nat.eq_of_beq_eq_true d2) (sameSos_eq d4) d3]; exact e1
          · cases c2
        have hf : ListFits N nv S S' l := .inl ⟨hlt', hmem, c1⟩
        have hsrc : srcOf N nv l = some l.s := by simp only [srcOf, hlt, cond_true]
        cases ho : l.own with
        | false =>
          rw [ho] at h
          simp only [cond_false, Option.some.injEq] at h; subst h
          exact fin hf (fun h => by rw [ho] at h; cases h) fun _ h => h
        | true =>
          rw [ho] at h
          simp only [cond_true] at h
          cases hin : isInN l.s used' with
          | true => rw [hin] at h; cases h
          | false =>
            rw [hin] at h
            simp only [cond_false, Option.some.injEq] at h; subst h
            refine fin hf (fun _ n hn => ?_) fun _ h => List.mem_cons_of_mem _ h
            rw [hsrc] at hn; cases hn
            exact ⟨List.mem_cons_self, fun hm => by rw [isInN_in hm] at hin; cases hin⟩
    | false =>
      have hge : N ≤ l.s := by
        rcases Nat.lt_or_ge l.s N with h' | h'
        · have : Nat.blt l.s N = true := Nat.ble_eq_true_of_le h'
          rw [hlt] at this; cases this
        · exact h'
      rw [hlt] at h
      simp only [cond_false] at h
      split at h
      · rename_i n ha
        obtain ⟨hf, hsrc⟩ := alignList_fits (S := S) ha hge
        cases hin : isInN n used' with
        | true => rw [hin] at h; cases h
        | false =>
          rw [hin] at h
          simp only [cond_false, Option.some.injEq] at h; subst h
          refine fin hf (fun _ m hn => ?_) fun _ h => List.mem_cons_of_mem _ h
          rw [hsrc] at hn; cases hn
          exact ⟨List.mem_cons_self, fun hm => by rw [isInN_in hm] at hin; cases hin⟩
      · rename_i ha
        obtain ⟨hf, hsrc⟩ := alignList_fits (S := S) ha hge
        simp only [Option.some.injEq] at h; subst h
        exact fin hf (fun _ m hn => by rw [hsrc] at hn; cases hn) fun _ h => h
      · cases h
end
end Go.Ev
namespace Go.Ev
open Go.RowKit (Below)
theorem enumS_find : ∀ {hs : List Sort_} {N i : Nat} {r : List (Nat × Sort_)}, find i (enumS N hs ++ r) = if N ≤ i ∧ i < N + hs.length then hs[i - N]? else find i r
  | [], N, i, r => by
    have : ¬ (N ≤ i ∧ i < N + ([] : List Sort_).length) := by simp
    rw [if_neg this]; rfl
  | t :: hs, N, i, r => by
    simp only [enumS, List.cons_append]
    by_cases e : i = N
    · subst e
      rw [find_cons_self, if_pos (by simp)]
      simp
    · rw [find_cons_ne e, enumS_find]
      by_cases h : N ≤ i ∧ i < N + (t :: hs).length
      · rw [if_pos h, if_pos (by simp only [List.length_cons] at h; omega)]
        obtain ⟨k, hk⟩ : ∃ k, i - N = k + 1 := ⟨i - N - 1, by omega⟩
        rw [hk, List.getElem?_cons_succ]
        congr 1
        omega
      · rw [if_neg h, if_neg (by simp only [List.length_cons] at h; omega)]
theorem fitsL_get : ∀ {hs : List Sort_} {vs : List Value}, fitsL hs vs → ∀ {j : Nat} {t : Sort_}, hs[j]? = some t → ∃ v, vs[j]? = some v ∧ t.fits v
  | [], [], _, j, t, h => by simp at h
  | s :: ss, v :: vs, h, j, t, hj => by
    cases j with
    | zero => simp at hj; subst hj; exact ⟨v, rfl, h.1⟩
    | succ j => simp at hj; simpa using fitsL_get h.2 hj
  | [], _ :: _, h, _, _, _ => h.elim
  | _ :: _, [], h, _, _, _ => h.elim
theorem fitsL_length : ∀ {hs : List Sort_} {vs : List Value}, fitsL hs vs → hs.length = vs.length
  | [], [], _ => rfl
  | _ :: ss, _ :: vs, h => by simp [fitsL_length (hs := ss) (vs := vs) h.2]
  | [], _ :: _, h => h.elim
  | _ :: _, [], h => h.elim
def comes (T : Tpl) (H : List SV × St) (S : St) (m : Nat) (ts' : List SV) (S' : St) : Option (List SV) :=
  match newVals T S ts' S' with
  | none => none
  | some nv => bif Nat.beq nv.length m && (alignL S.nsym nv H.1 ts' && (alignHeap S.nsym nv S S' H.2.heap && (factsFit S.nsym nv S' (T.facts S.nsym) && (S.ds.isEmpty && S'.ds.isEmpty)))) then
      (match alignLists S.nsym nv S S' H.2.lists with
      | some _ => some nv
      | none => none) else none
section
variable {B G : Nat} {w0 : Start} {E F : Env} {S S' : St} {w w' : World} {P : Program}
structure Heady (S : St) (hs : List Sort_) (fs : List Fact_) (SH : St) : Prop where
  next : SH.next = S.next
  ncap : SH.ncap = S.ncap
  lows : SH.lows = S.lows
  nsym : SH.nsym = S.nsym + hs.length
  sorts : SH.sorts = enumS S.nsym hs ++ S.sorts
  pc : SH.pc = S.pc
  gs : SH.gs = S.gs
  ro : SH.ro = S.ro
  ra : SH.ra = S.ra
  facts : SH.facts = fs ++ S.facts
  ds : SH.ds = S.ds
  deeps : SH.deeps = S.deeps
structure HeadKnown (E : Env) (N : Nat) (H : List SV × St) : Prop where
  ts : KnownL E N H.1
  heap : ∀ id o, find id H.2.heap = some o → KnownO E N o
theorem comes_known {T : Tpl} {H : List SV × St} {m : Nat} {ts : List SV} {l : List Value} {nv : List SV} (hr : Rel B G w0 E S w) (h : comes T H S m ts S = some nv) (ht : SV.denL E ts = some l) : HeadKnown E S.nsym H := by
  unfold comes at h
  split at h
  · cases h
  rename_i nv' _
  cases hc : Nat.beq nv'.length m && (alignL S.nsym nv' H.1 ts && (alignHeap S.nsym nv' S S H.2.heap && (factsFit S.nsym nv' S (T.facts S.nsym) && (S.ds.isEmpty && S.ds.isEmpty)))) with
  | false => rw [hc] at h; cases h
  | true =>
    simp only [Bool.and_eq_true] at hc
    refine ⟨alignL_known _ _ _ hc.2.1 ht, fun id o hf => ?_⟩
    obtain ⟨o', o0, h1, h2, h3⟩ := alignHeap_find hc.2.2.1 hf
    obtain ⟨b, x, _, _, hx⟩ := hr.heap id o' h1
    exact alignObj_known h3 hx
theorem ownBlock_nil : (Value.slice none 0 0).ownBlock = none := rfl
theorem bindL_den {α : Type} {f : α → Option (List SV)} : ∀ {l : List α} {r : List SV}, bindL l f = some r → (∀ x ∈ l, ∀ a, f x = some a → ∃ vs, SV.denL F a = some vs) → ∃ vs, SV.denL F r = some vs
  | [], r, h, _ => by simp only [bindL, Option.some.injEq] at h; subst h; exact ⟨[], rfl⟩
  | x :: l, r, h, hf => by
    simp only [bindL] at h
    split at h
    · cases h
    · rename_i a ha
      split at h
      · cases h
      · rename_i b hb
        simp only [Option.some.injEq] at h; subst h
        obtain ⟨va, h1⟩ := hf x List.mem_cons_self a ha
        obtain ⟨vb, h2⟩ := bindL_den hb fun y hy => hf y (List.mem_cons_of_mem _ hy)
        exact ⟨va ++ vb, denL_append h1 h2⟩
theorem zip_den {α : Type} {ys : List SV} {l : List Value} (h : SV.denL F ys = some l) {xs : List α} : ∀ p ∈ xs.zip ys, ∃ v, p.2.den F = some v := fun p hp => by
  obtain ⟨j, hj⟩ := List.mem_iff_getElem?.1 hp
  have := (List.getElem?_zip_eq_some.1 hj).2
  obtain ⟨v, _, hv⟩ := denL_get h this
  exact ⟨v, hv⟩
theorem listVals_den (hr : Rel B G w0 F S' w') {y : SV} {l : List SV} {v : Value} (h : listVals S' y = some l) (hy : y.den F = some v) : ∃ vs, SV.denL F l = some vs := by
  unfold listVals at h
  split at h
  · split at h
    · rename_i m hm
      simp only [Option.some.injEq] at h; subst h
      obtain ⟨u, cells, hL⟩ := hr.lists m (listAt_mem hm).1
      exact ⟨_, denL_mk hy (denL_mk (x := .sym m.x) (by simp only [SV.den]; exact hL.x) (r := []) rfl)⟩
    · cases h
  · cases hn : isNilS y with
    | false => rw [hn] at h; cases h
    | true =>
      rw [hn] at h
      simp only [cond_true, Option.some.injEq] at h; subst h
      exact ⟨_, denL_mk hy (denL_mk (x := .val (.agg #[])) (v := .agg #[]) (by simp only [SV.den]) (r := []) rfl)⟩
theorem valsHv_den (hr : Rel B G w0 F S' w') : ∀ (d : Nat) (h : Hv) (y : SV) (l : List SV) (v : Value), valsHv S' d h y = some l → y.den F = some v → ∃ vs, SV.denL F l = some vs
  | d, .keep, y, l, v, h, hy => by
    have : l = [] := by cases d <;> (simp only [valsHv, Option.some.injEq] at h; exact h.symm)
    subst this; exact ⟨[], rfl⟩
  | d, .scal t, y, l, v, h, hy => by
    have : l = [y] := by cases d <;> (simp only [valsHv, Option.some.injEq] at h; exact h.symm)
    subst this; exact ⟨[v], denL_mk hy (r := []) rfl⟩
  | d, .list e lay, y, l, v, h, hy => by
    have h : listVals S' y = some l := by cases d <;> exact h
    exact listVals_den hr h hy
  | d, .whole ex, y, l, v, h, hy => by
    cases d <;> simp only [valsHv] at h <;> split at h <;> first | (cases h; done) | skip
    all_goals
      rename_i p hp
      simp only [Option.some.injEq] at h; subst h
      obtain ⟨m, g, ka⟩ := wholeOf_ok hr hp hy
      exact ⟨_, denL_mk ka.n (denL_mk hy (r := []) rfl)⟩
  | 0, .agg hs, y, l, v, h, hy => by simp only [valsHv] at h; cases h
  | d + 1, .agg hs, y, l, v, h, hy => by
    simp only [valsHv] at h
    split at h
    · rename_i ys hys
      obtain ⟨vs, hvs, _⟩ := aggOf_den hys hy
      cases hb : Nat.beq hs.length ys.length with
      | false => rw [hb] at h; cases h
      | true =>
        rw [hb] at h
        refine bindL_den h fun p hp a ha => ?_
        obtain ⟨u, hu⟩ := zip_den hvs p hp
        exact valsHv_den hr d p.1 p.2 a u ha hu
    · cases h
theorem inpVals_den (hr : Rel B G w0 F S' w') : ∀ {l : List Nat} {r : List SV}, inpVals S'.lists l = some r → ∃ vs, SV.denL F r = some vs
  | [], r, h => by simp only [inpVals, Option.some.injEq] at h; subst h; exact ⟨[], rfl⟩
  | s :: l, r, h => by
    simp only [inpVals] at h
    split at h
    · rename_i m v hm hv
      simp only [Option.some.injEq] at h; subst h
      obtain ⟨vs, h1⟩ := inpVals_den hr hv
      obtain ⟨u, cells, hL⟩ := hr.lists m (listAt_mem hm).1
      exact ⟨_, denL_mk (x := .sym m.x) (by simp only [SV.den]; exact hL.x) h1⟩
    · cases h
theorem newVals_den (hr : Rel B G w0 F S' w') {T : Tpl} {ts' : List SV} {l' : List Value} (ht : SV.denL F ts' = some l') {nv : List SV} (h : newVals T S ts' S' = some nv) : ∃ hv, SV.denL F nv = some hv := by
  unfold newVals at h
  split at h
  · cases h
  rename_i a ha
  split at h
  · cases h
  rename_i b hb
  obtain ⟨va, h1⟩ := bindL_den (F := F) ha fun p hp a ha => by
    obtain ⟨u, hu⟩ := zip_den ht p hp
    exact valsHv_den hr deep p.1 p.2 a u ha hu
  obtain ⟨vb, h2⟩ := bindL_den (F := F) hb fun p hp a ha => by
    split at ha
    · split at ha
      · rename_i cs e wr ext hf
        obtain ⟨blk, x, hρ, hx, _⟩ := hr.heap _ _ hf
        obtain ⟨l, r, fz, _, hl, _⟩ := row_at hr hf hρ
        refine bindL_den ha fun q hq a ha => ?_
        obtain ⟨u, hu⟩ := zip_den hl q hq
        exact valsHv_den hr deep q.1 q.2 a u ha hu
      · cases ha
    · simp only [Option.some.injEq] at ha; subst ha; exact ⟨[], rfl⟩
  split at h
  · cases h
  rename_i c hc
  simp only [Option.some.injEq] at h; subst h
  obtain ⟨vc, h3⟩ := inpVals_den hr hc
  exact ⟨va ++ (vb ++ vc), denL_append h1 (denL_append h2 h3)⟩
theorem list_rel {N : Nat} {nv : List SV} {hv : List Value} (hr0 : Rel B G w0 E S w) (hN : N = S.nsym) (hE : E.le F) (hr : Rel B G w0 F S' w') (hnv : SV.denL F nv = some hv) {l : LEnt} (hf : ListFits N nv S S' l) :
    ∃ v cells, LRel B w0 (E.unks N hv) w' l v cells ∧ (∀ b, l.own = true → v.ownBlock = some b → ∃ m ∈ S'.lists, m.own = true ∧ srcOf N nv l = some m.s ∧ F.σ m.s = some v) := by
  have hle := unks_le E hv (N := N) (by rw [hN]; exact hr0.newσ)
  rcases hf with ⟨hlt, hm, hk⟩ | ⟨hlt, hgx, ho, hpos, ⟨l0, hl0, es0⟩, m, hm, es, mo, me, ml, h2⟩ | ⟨hge, hgx, ho, hpos, hcase⟩
  · obtain ⟨v, cells, hL⟩ := hr0.lists l hm
    have hsrc : srcOf N nv l = some l.s := by
      have : Nat.blt l.s N = true := Nat.ble_eq_true_of_le hlt
      simp only [srcOf, this, cond_true]
    cases ho : l.own with
    | false =>
      exact ⟨v, cells, { s := hle.σ _ _ hL.s, x := hle.σ _ _ hL.x, some_ := hL.some_, few := hL.few, whole := hL.whole, lay := hL.lay, own := fun h => (by rw [ho] at h; cases h), old := hL.old }, fun b h => by cases h⟩
    | true =>
      unfold listKept at hk
      rw [ho] at hk
      simp only [Bool.not_true, Bool.false_or] at hk
      split at hk
      · rename_i m hm'
        simp only [Bool.and_eq_true] at hk
        obtain ⟨c1, c2, c3, c4⟩ := hk
        obtain ⟨e1, e2⟩ := listAt_mem hm'
        have c1 := Nat.eq_of_beq_eq_true c1
        have c3 := Nat.eq_of_beq_eq_true c3
        have c4 := Nat.eq_of_beq_eq_true c4
        obtain ⟨v', cells', hL'⟩ := hr.lists m e1
        have hv : v' = v := by have := hL'.s; rw [e2, hE.σ _ _ hL.s] at this; cases this; rfl
        have hc : cells' = cells := by have := hL'.x; rw [c1, hE.σ _ _ hL.x] at this; cases this; rfl
        subst hv hc
        refine ⟨v', cells', { s := hle.σ _ _ hL.s, x := hle.σ _ _ hL.x, some_ := hL.some_, few := hL.few, whole := hL.whole, lay := hL.lay, own := fun _ => ?_, old := hL.old }, fun b _ _ => ⟨m, e1, c2, by rw [hsrc, e2], hL'.s⟩⟩
        have := hL'.own c2
        rw [c3, c4] at this
        exact this
      · cases hk
  · have hsrc : srcOf N nv l = some l.s := by
      have : Nat.blt l.s N = true := Nat.ble_eq_true_of_le hlt
      simp only [srcOf, this, cond_true]
    obtain ⟨v0, cells0, hL0⟩ := hr0.lists l0 hl0
    obtain ⟨v, cells, hL⟩ := hr.lists m hm
    have ev : v0 = v := by have := hL.s; rw [es, ← es0, hE.σ _ _ hL0.s] at this; cases this; rfl
    subst ev
    have d1 : (E.unks N hv).σ l.s = some v0 := by rw [← es0]; exact hle.σ _ _ hL0.s
    have d2 : (E.unks N hv).σ l.x = some (.agg cells) := by
      rw [unks_new E hv hgx]
      obtain ⟨u, hu, hd⟩ := denL_get hnv h2
      simp only [SV.den] at hd
      rw [hL.x] at hd; cases hd
      exact hu
    refine ⟨v0, cells, { s := d1, x := d2, some_ := hpos, few := by rw [← ml]; exact hL.few, whole := by rw [← ml]; exact hL.whole, lay := by rw [← ml]; exact hL.lay, own := fun _ => ?_, old := fun h => by rw [ho] at h; cases h },
      fun b _ _ => ⟨m, hm, mo, by rw [hsrc, es], hL.s⟩⟩
    have := hL.own mo
    rw [me, ml] at this
    exact this
  · have hlt : Nat.blt l.s N = false := by rw [← Bool.not_eq_true]; exact fun e => by have : l.s < N := Nat.le_of_ble_eq_true e; omega
    rcases hcase with ⟨m, hm, mo, me, ml, h1, h2⟩ | ⟨a, h1, h2, rfl⟩
    · obtain ⟨v, cells, hL⟩ := hr.lists m hm
      have d1 : (E.unks N hv).σ l.s = some v := by
        rw [unks_new E hv hge]
        obtain ⟨u, hu, hd⟩ := denL_get hnv h1
        simp only [SV.den] at hd
        rw [hL.s] at hd; cases hd
        exact hu
      have d2 : (E.unks N hv).σ l.x = some (.agg cells) := by
        rw [unks_new E hv hgx]
        obtain ⟨u, hu, hd⟩ := denL_get hnv h2
        simp only [SV.den] at hd
        rw [hL.x] at hd; cases hd
        exact hu
      refine ⟨v, cells, { s := d1, x := d2, some_ := hpos, few := by rw [← ml]; exact hL.few, whole := by rw [← ml]; exact hL.whole, lay := by rw [← ml]; exact hL.lay, own := fun _ => ?_, old := fun h => by rw [ho] at h; cases h },
        fun b _ _ => ⟨m, hm, mo, by simp only [srcOf, hlt, cond_false, h1], hL.s⟩⟩
      have := hL.own mo
      rw [me, ml] at this
      exact this
    · have d1 : (E.unks N hv).σ l.s = some (.slice none 0 0) := by
        rw [unks_new E hv hge]
        obtain ⟨u, hu, hd⟩ := denL_get hnv h1
        simp only [SV.den, Option.some.injEq] at hd; subst hd
        exact hu
      have d2 : (E.unks N hv).σ l.x = some (.agg #[]) := by
        rw [unks_new E hv hgx]
        obtain ⟨u, hu, hd⟩ := denL_get hnv h2
        simp only [SV.den, Option.some.injEq] at hd; subst hd
        exact hu
      refine ⟨.slice none 0 0, #[], { s := d1, x := d2, some_ := hpos, few := by simp, whole := by simp, lay := fun j c hj => by simp at hj, own := fun _ => ?_, old := fun h => by rw [ho] at h; cases h },
        fun b _ h => by cases h⟩
      simpa using World.ownsRow_nil w' B l.e l.lay.length
theorem factsFit_ok (hr : Rel B G w0 F S' w') {N : Nat} {nv : List SV} {hv : List Value} (hden : SV.denL F nv = some hv) : ∀ {fs : List Fact_}, factsFit N nv S' fs = true → ∀ q ∈ fs, ∃ vs v, SV.denL (E.unks N hv) q.args = some vs ∧ q.res.den (E.unks N hv) = some v ∧ q.op.rel w0 vs v
  | [], _, q, hq => by cases hq
  | f :: r, h, q, hq => by
    simp only [factsFit, Bool.and_eq_true] at h
    cases hq with
    | tail _ hq => exact factsFit_ok hr hden h.2 q hq
    | head =>
      obtain ⟨h, _⟩ := h
      split at h
      case h_2 => cases h
      rename_i op a b
      simp only [Bool.and_eq_true] at h
      obtain ⟨na, nb, h⟩ := h
      have na := Nat.le_of_ble_eq_true na
      have nb := Nat.le_of_ble_eq_true nb
      split at h
      case h_2 => cases h
      rename_i x y hx hy
      split at h
      case h_2 => cases h
      rename_i p hp
      simp only [Bool.and_eq_true] at h
      obtain ⟨hal, hop⟩ := h
      obtain ⟨vx, hvx, dx⟩ := denL_get hden hx
      obtain ⟨vy, hvy, dy⟩ := denL_get hden hy
      obtain ⟨m, g, ka⟩ := wholeOf_ok hr hp dy
      have := alike_eq hal
      subst this
      have e1 := ka.n
      rw [dx] at e1; cases e1
      have e2 := ka.v
      subst e2
      have d1 : (SV.sym a).den (E.unks N hv) = some (.int .i64 m) := by simp only [SV.den]; rw [unks_new E hv na]; exact hvx
      have d2 : (SV.sym b).den (E.unks N hv) = some (.float .f64 g) := by simp only [SV.den]; rw [unks_new E hv nb]; exact hvy
      refine ⟨[.int .i64 m], .float .f64 g, denL_mk d1 (r := []) rfl, d2, ?_⟩
      split at hop
      · have hg : g = FloatKind.f64.nearest m := by
          unfold Wh.sure at hop
          simp only [Bool.or_eq_true, decide_eq_true_eq] at hop
          have := ka.lo; have := ka.hi
          rcases hop with h | h | h
          · exact ka.ex h
          · exact ka.w.exact (by omega)
          · exact ka.w.exact (by omega)
        show sopFun (.i2f .f64) _ = _
        simp only [sopFun, hg]
      · exact ⟨g, rfl, ka.w⟩
      · cases hop
theorem comes_rel {T : Tpl} {H : List SV × St} {hs : List Sort_} {ts' : List SV} {l' : List Value} {nv : List SV} {w : World} (hr0 : Rel B G w0 E S w) (hH : Heady S hs (T.facts S.nsym) H.2) (hK : HeadKnown E S.nsym H)
    (hE : E.le F) (hr : Rel B G w0 F S' w') (ht : SV.denL F ts' = some l') (h : comes T H S hs.length ts' S' = some nv) :
    ∃ hv, SV.denL F nv = some hv ∧ hv.length = hs.length ∧ (fitsL hs hv → Rel B G w0 (E.unks S.nsym hv) H.2 w' ∧ SV.denL (E.unks S.nsym hv) H.1 = some l') := by
  unfold comes at h
  split at h
  · cases h
  rename_i nv' hnv
  cases hc : Nat.beq nv'.length hs.length && (alignL S.nsym nv' H.1 ts' && (alignHeap S.nsym nv' S S' H.2.heap && (factsFit S.nsym nv' S' (T.facts S.nsym) && (S.ds.isEmpty && S'.ds.isEmpty)))) with
  | false => rw [hc] at h; cases h
  | true =>
  rw [hc] at h
  simp only [cond_true] at h
  split at h
  case h_2 => cases h
  rename_i used hused
  simp only [Option.some.injEq] at h; subst h
  simp only [Bool.and_eq_true] at hc
  obtain ⟨hlen, hal, hah, hff, _⟩ := hc
  have hlen := Nat.eq_of_beq_eq_true hlen
  obtain ⟨hv, hden⟩ := newVals_den hr ht hnv
  have hvl : hv.length = hs.length := by rw [denL_length hden, hlen]
  refine ⟨hv, hden, hvl, fun hfit => ?_⟩
  have hN : ∀ i, S.nsym ≤ i → E.σ i = none := hr0.newσ
  have hle := unks_le E hv hN
  obtain ⟨hl1, _, hl3⟩ := alignLists_ok hused
  have lists : ∀ l ∈ H.2.lists, ∃ v cells, LRel B w0 (E.unks S.nsym hv) w' l v cells ∧ (∀ b, l.own = true → v.ownBlock = some b → ∃ m ∈ S'.lists, m.own = true ∧ srcOf S.nsym nv' l = some m.s ∧ F.σ m.s = some v) :=
    fun l hl => list_rel hr0 rfl hE hr hden (hl1 l hl)
  have ids : ∀ id o, find id H.2.heap = some o → ∃ o' c x, find id S'.heap = some o' ∧ E.ρ id = some c ∧ F.ρ id = some c ∧ w'.heap[c]? = some x ∧ ORel (E.unks S.nsym hv) o x := fun id o hf => by
    obtain ⟨o', o0, h1, h2, h3⟩ := alignHeap_find hah hf
    obtain ⟨c0, x0, k1, _, _⟩ := hr0.heap id o0 h2
    obtain ⟨c, x, k2, k3, k4⟩ := hr.heap id o' h1
    have := hE.ρ _ _ k1
    rw [k2] at this; cases this
    exact ⟨o', _, x, h1, k1, k2, k3, alignObj_rel hE hN hden h3 (hK.heap id o hf) k4⟩
  refine ⟨?_, alignL_den hE hN hden _ _ _ hal hK.ts ht⟩
  exact
  { heap := fun id o hf => by
      obtain ⟨o', c, x, h1, h2, h3, h4, h5⟩ := ids id o hf
      exact ⟨c, x, h2, h4, h5⟩
    inj := fun i j a b c hi hj hi' hj' => by
      obtain ⟨o1, c1, x1, h1, h2, h3, _⟩ := ids i a hi
      obtain ⟨o2, c2, x2, k1, k2, k3, _⟩ := ids j b hj
      exact hr.inj i j o1 o2 c h1 k1 (hE.ρ _ _ hi') (hE.ρ _ _ hj')
    low := fun i o b hi hg hb => by
      obtain ⟨o', c, x, h1, h2, h3, _⟩ := ids i o hi
      exact hr.low i o' b h1 hg (hE.ρ _ _ hb)
    next := by rw [hH.next]; exact hr0.next
    newρ := by rw [hH.next]; exact hr0.newρ
    newσ := fun i hi => by
      rw [hH.nsym] at hi
      rw [unks_new E hv (by omega), List.getElem?_eq_none (by omega)]
    newκ := by rw [hH.ncap]; exact hr0.newκ
    dom := fun i b hb => hr.dom i b (hE.ρ _ _ hb)
    own := fun i o b hi hg hb => by
      obtain ⟨o', c, x, h1, h2, h3, _⟩ := ids i o hi
      exact hr.own i o' b h1 hg (hE.ρ _ _ hb)
    base := hr.base
    below := hr.below
    lows := by rw [hH.lows]; exact hr0.lows
    sorts := fun i t hi => by
      rw [hH.sorts, enumS_find] at hi
      split at hi
      · rename_i hb
        obtain ⟨v, h1, h2⟩ := fitsL_get hfit hi
        exact ⟨v, by rw [unks_new E hv hb.1]; exact h1, h2⟩
      · obtain ⟨v, h1, h2⟩ := hr0.sorts i t hi
        exact ⟨v, hle.σ _ _ h1, h2⟩
    pc := fun i b hi => by rw [hH.pc] at hi; exact hle.σ _ _ (hr0.pc i b hi)
    glob := fun i hi => by rw [hH.gs] at hi; exact hr0.glob i hi
    pins := fun p hp => hle.σ _ _ (hr0.pins p hp)
    ro := fun i xs hi => by rw [hH.ro] at hi; obtain ⟨a, cap, h1, h2⟩ := hr0.ro i xs hi; exact ⟨a, cap, hle.σ _ _ h1, h2⟩
    ra := fun i u hi => by rw [hH.ra] at hi; obtain ⟨a, h1, h2⟩ := hr0.ra i u hi; exact ⟨a, hle.σ _ _ h1, h2⟩
    deeps := fun d hd => by rw [hH.deeps] at hd; obtain ⟨v, x, h1, h2, h3⟩ := hr0.deeps d hd; exact ⟨v, x, hle.σ _ _ h1, hle.σ _ _ h2, h3⟩
    facts := fun q hq => by
      rw [hH.facts] at hq
      simp only [List.mem_append] at hq
      rcases hq with hq | hq
      · exact factsFit_ok hr hden hff q hq
      obtain ⟨vs, v, h1, h2, h3⟩ := hr0.facts q hq; exact ⟨vs, v, SV.denL_mono hle _ _ h1, SV.den_mono hle _ _ h2, h3⟩
    lists := fun l hl => by obtain ⟨v, cells, h1, _⟩ := lists l hl; exact ⟨v, cells, h1⟩
    apart := fun l hl ho v hlv b hb => by
      obtain ⟨v1, cells, h1, h2⟩ := lists l hl
      have := h1.s; rw [hlv] at this; cases this
      obtain ⟨m, hm, mo, hsrc, hmv⟩ := h2 b ho hb
      obtain ⟨a1, a2⟩ := hr.apart m hm mo v hmv b hb
      refine ⟨fun id o hf he => ?_, fun l2 hl2 ho2 u hu hub => ?_⟩
      · obtain ⟨o', c, x, k1, k2, k3, _⟩ := ids id o hf
        exact a1 id o' k1 (hE.ρ _ _ he)
      · obtain ⟨v2, cells2, k1, k2⟩ := lists l2 hl2
        have := k1.s; rw [hu] at this; cases this
        obtain ⟨m2, hm2, mo2, hsrc2, hmv2⟩ := k2 b ho2 hub
        have e := a2 m2 hm2 mo2 u hmv2 hub
        rw [e] at hsrc2
        exact hl3 l hl ho l2 hl2 ho2 m.s hsrc hsrc2 }
end
end Go.Ev
namespace Go.Ev
open Go.RowKit (Below)
def loopKey : Code → Option Nat
  | .region id _ _ => some id
  | .seq a b => match loopKey a with
    | some k => some k
    | none => loopKey b
  | .cond _ a b => match loopKey a with
    | some k => some k
    | none => loopKey b
  | .block _ c => loopKey c
  | .loop c => loopKey c
  | .scope c => loopKey c
  | _ => none
def args0 (S : St) : Nat → List SV
  | 0 => []
  | n + 1 => args0 S n ++ [match find n S.sorts with
    | some _ => .sym n
    | none => .val undef]
def newSyms (N : Nat) : Nat → List SV
  | 0 => []
  | n + 1 => newSyms N n ++ [.sym (N + n)]
def isBack (o : Out) : Bool := !o.st.bad && (match o.kind with
  | .normal => true
  | _ => false)
def addFact (S : St) (op : SOp) (args : List SV) (bad : Bool) : St := { S with facts := ⟨op, args, .val undef⟩ :: S.facts, bad := bad }
structure LSpec where
  id : String
  p : List Value → Prop
  m : List Value → Nat
  slots : Option (List Nat) := none
  bds : List (Nat × Int × Int) := []
def flatS (x : SV) : SV := bif plain x then x else .val undef
where
  plain : SV → Bool
    | .sym _ => true
    | .val (.int _ _) | .val (.float _ _) | .val (.bool _) | .val (.string _) => true
    | _ => false
def entryArgs (k : LSpec) (ts : List SV) (S : St) : List SV := match k.slots with
  | none => args0 S S.nsym
  | some l => l.map fun i => flatS (ts.getD i (.val undef))
def loopOuts (k : LSpec) (ea : List SV) (T : Tpl) (H : List SV × St) (hs : List Sort_) (S : St) : List Out → Option (List Out)
  | [] => some []
  | o :: r => match loopOuts k ea T H hs S r with
    | none => none
    | some l => bif isBack o then
        match comes T H S hs.length o.ts o.st with
        | some nv => some ({ o with st := addFact o.st (.nback k.id k.p k.m (ea.length + hs.length) (List.replicate ea.length .any ++ hs)) ((ea ++ newSyms S.nsym hs.length) ++ (ea ++ nv)) true } :: l)
        | none => none
      else some (o :: l)
def seek (k : LSpec) (rec : Task → Option (List Out)) (c : Code) (ts : List SV) (S : St) : Nat → Tpl → List LEnt → Option (List Out)
  | 0, _, _ => none
  | n + 1, T, kept =>
    let hs := tighten k.bds 0 T.sorts
    let H := headSt T hs kept ts S
    match comes T H S hs.length ts S with
    | none => none
    | some nv => match rec (.code c H.1 (addFact H.2 (.pred k.id k.p) (entryArgs k ts S ++ newSyms S.nsym hs.length) false)) with
      | none => none
      | some outs => match loopOuts k (entryArgs k ts S) T H hs S outs with
        | some l => some ({ kind := .normal, ts := ts, st := addFact S (.nat0 k.id k.p (List.replicate (entryArgs k ts S).length .any ++ hs)) (entryArgs k ts S ++ nv) true } :: l)
        | none =>
          let back := outs.filter isBack
          seek k rec c ts S n (back.foldl (fun T o => joinTpl T (diffTpl ts S o.ts o.st)) T) (kept.filter fun l => back.all fun o => listKept o.st.lists l)
def loopOf (f k : Nat) : List (Nat × Nat × LSpec) → Option LSpec
  | [] => none
  | (g, j, p) :: r => bif Nat.beq f g && Nat.beq k j then some p else loopOf f k r
def loops (K : List (Nat × Nat × LSpec)) (rec : Task → Option (List Out)) (c : Code) (ts : List SV) (S : St) : Option (Option (List Out)) :=
  match loopKey c with
  | none => none
  | some key => match loopOf S.fn key K with
    | none => none
    | some k => some (match rec (.code c ts S) with
      | none => none
      | some outs =>
        let back := outs.filter isBack
        seek k rec c ts S 4 (back.foldl (fun T o => joinTpl T (diffTpl ts S o.ts o.st)) (keepAll ts S)) (S.lists.filter fun l => back.all fun o => listKept o.st.lists l))
section
variable {B G : Nat} {w0 : Start} {E F : Env} {S S' : St} {w w' : World} {P : Program}
theorem args0_den (hr : Rel B G w0 E S w) : ∀ n, ∃ old, SV.denL E (args0 S n) = some old ∧ old.length = n
  | 0 => ⟨[], rfl, rfl⟩
  | n + 1 => by
    obtain ⟨old, h1, h2⟩ := args0_den hr n
    have : ∃ v, (match find n S.sorts with
      | some _ => SV.sym n
      | none => .val undef).den E = some v := by
      split
      · rename_i t ht
        obtain ⟨v, hv, _⟩ := hr.sorts n t ht
        exact ⟨v, by simp only [SV.den]; exact hv⟩
      · exact ⟨undef, by simp only [SV.den]⟩
    obtain ⟨v, hv⟩ := this
    exact ⟨old ++ [v], denL_append h1 (denL_mk hv (r := []) rfl), by simp [h2]⟩
theorem entryArgs_den (hr : Rel B G w0 E S w) (k : LSpec) {ts : List SV} {l : List Value} (ht : SV.denL E ts = some l) : ∃ old, SV.denL E (entryArgs k ts S) = some old := by
  unfold entryArgs
  split
  · obtain ⟨old, h, _⟩ := args0_den hr S.nsym
    exact ⟨old, h⟩
  · rename_i sl hsl
    clear hsl
    induction sl with
    | nil => exact ⟨[], rfl⟩
    | cons i r ih =>
      obtain ⟨old, h⟩ := ih
      have h1 : ∃ v, (flatS (ts.getD i (.val undef))).den E = some v := by
        unfold flatS
        cases flatS.plain (ts.getD i (.val undef)) with
        | false => exact ⟨undef, by simp only [cond_false, SV.den]⟩
        | true =>
          simp only [cond_true]
          have := getD_den (E := E) (ts := ts) (tmps := l.toArray) (by simpa using ht) i
          exact ⟨_, this⟩
      obtain ⟨v, hv⟩ := h1
      exact ⟨v :: old, by simpa using denL_mk hv h⟩
theorem newSyms_den (E : Env) {N : Nat} {hv : List Value} : ∀ n, n ≤ hv.length → SV.denL (E.unks N hv) (newSyms N n) = some (hv.take n)
  | 0, _ => by simp [newSyms, SV.denL]
  | n + 1, h => by
    have h1 := newSyms_den E (N := N) (hv := hv) n (by omega)
    have h2 : (SV.sym (N + n)).den (E.unks N hv) = some hv[n] := by
      simp only [SV.den]
      rw [unks_new E hv (by omega)]
      rw [show N + n - N = n by omega]
      exact List.getElem?_eq_getElem (by omega)
    have := denL_append h1 (denL_mk h2 (r := []) rfl)
    rw [List.take_succ_eq_append_getElem (by omega)]
    exact this
theorem fits_old : ∀ {old : List Value} {hs : List Sort_} {hv : List Value}, fitsL (List.replicate old.length .any ++ hs) (old ++ hv) ↔ fitsL hs hv
  | [], hs, hv => Iff.rfl
  | v :: old, hs, hv => by
    simp only [List.length_cons, List.replicate_succ, List.cons_append, fitsL]
    rw [fits_old (old := old)]
    exact ⟨fun h => h.2, fun h => ⟨trivial, h⟩⟩
theorem Rel.addFact (h : Rel B G w0 E S w) {op : SOp} {args : List SV} {vs : List Value} (ha : SV.denL E args = some vs) (hop : op.rel w0 vs undef) (b : Bool) : Rel B G w0 E (addFact S op args b) w :=
  { h with
    facts := fun q hq => by
      simp only [Ev.addFact, List.mem_cons] at hq
      rcases hq with rfl | hq
      · exact ⟨vs, undef, ha, by simp only [SV.den], hop⟩
      · exact h.facts q hq }
theorem loopOuts_back {k : LSpec} {ea : List SV} {T : Tpl} {H : List SV × St} {hs : List Sort_} : ∀ {outs l : List Out}, loopOuts k ea T H hs S outs = some l → ∀ o ∈ outs,
    (isBack o = true → ∃ nv, comes T H S hs.length o.ts o.st = some nv ∧ { o with st := addFact o.st (.nback k.id k.p k.m (ea.length + hs.length) (List.replicate ea.length .any ++ hs)) ((ea ++ newSyms S.nsym hs.length) ++ (ea ++ nv)) true } ∈ l) ∧
    (isBack o = false → o ∈ l)
  | [], l, h, o, ho => by cases ho
  | x :: r, l, h, o, ho => by
    simp only [loopOuts] at h
    split at h
    · cases h
    rename_i l' hl'
    cases hb : isBack x with
    | true =>
      rw [hb] at h
      simp only [cond_true] at h
      split at h
      · rename_i nv hnv
        simp only [Option.some.injEq] at h; subst h
        cases ho with
        | head => exact ⟨fun _ => ⟨nv, hnv, List.mem_cons_self⟩, fun h => by rw [hb] at h; cases h⟩
        | tail _ ho =>
          obtain ⟨h1, h2⟩ := loopOuts_back hl' o ho
          exact ⟨(fun h => by obtain ⟨nv, k1, k2⟩ := h1 h; exact ⟨nv, k1, List.mem_cons_of_mem _ k2⟩), fun h => List.mem_cons_of_mem _ (h2 h)⟩
      · cases h
    | false =>
      rw [hb] at h
      simp only [cond_false, Option.some.injEq] at h; subst h
      cases ho with
      | head => exact ⟨(fun h => by rw [hb] at h; cases h), fun _ => List.mem_cons_self⟩
      | tail _ ho =>
        obtain ⟨h1, h2⟩ := loopOuts_back hl' o ho
        exact ⟨(fun h => by obtain ⟨nv, k1, k2⟩ := h1 h; exact ⟨nv, k1, List.mem_cons_of_mem _ k2⟩), fun h => List.mem_cons_of_mem _ (h2 h)⟩
theorem head_ok (T : Tpl) (hs : List Sort_) (kept : List LEnt) (ts : List SV) (S : St) : Heady S hs (T.facts S.nsym) (headSt T hs kept ts S).2 :=
  { next := rfl, ncap := rfl, lows := rfl, nsym := rfl, sorts := rfl, pc := rfl, gs := rfl, ro := rfl, ra := rfl, facts := rfl, ds := rfl, deeps := rfl }
theorem comes_ds {T : Tpl} {H : List SV × St} {m : Nat} {ts : List SV} {nv : List SV} {S' : St} (h : comes T H S m ts S' = some nv) : S.ds = [] ∧ S'.ds = [] := by
  unfold comes at h
  split at h
  · cases h
  · rename_i nv' _
    cases hc : Nat.beq nv'.length m && (alignL S.nsym nv' H.1 ts && (alignHeap S.nsym nv' S S' H.2.heap && (factsFit S.nsym nv' S' (T.facts S.nsym) && (S.ds.isEmpty && S'.ds.isEmpty)))) with
    | false => rw [hc] at h; cases h
    | true =>
      simp only [Bool.and_eq_true, List.isEmpty_iff] at hc
      exact hc.2.2.2.2
theorem kind_back {o : Out} (h : isBack o = true) : o.kind = .normal := by
  unfold isBack at h
  simp only [Bool.and_eq_true] at h
  obtain ⟨_, hk⟩ := h
  cases hkk : o.kind <;> rw [hkk] at hk <;> simp at hk ⊢
theorem seek_ok {n : Nat} {rec : Task → Option (List Out)} (hrec : RecOK B G w0 P n rec) {k : LSpec} {c : Code} {ts : List SV} : ∀ {m : Nat} {T : Tpl} {kept : List LEnt} {outs : List Out},
    seek k rec c ts S m T kept = some outs → CodeOK B G w0 P (.loop c) ts S outs
  | 0, _, _, _, h => by cases h
  | m + 1, T, kept, outs, h => by
    simp only [seek] at h
    split at h
    · cases h
    rename_i nv0 hnv0
    split at h
    · cases h
    rename_i bouts hb
    split at h
    case h_2 => exact seek_ok hrec h
    rename_i l hl
    simp only [Option.some.injEq] at h; subst h
    generalize tighten k.bds 0 T.sorts = hs at hnv0 hb hl
    have hH : Heady S hs (T.facts S.nsym) (headSt T hs kept ts S).2 := head_ok T hs kept ts S
    generalize headSt T hs kept ts S = H at hnv0 hb hl hH
    intro E a w Q hr ht hd hQ hbad
    have hK := comes_known hr hnv0 ht
    have hds0 := (comes_ds hnv0).1
    have hN : ∀ i, S.nsym ≤ i → E.σ i = none := hr.newσ
    obtain ⟨old, ho1⟩ := entryArgs_den hr k ht
    have ho2 : old.length = (entryArgs k ts S).length := denL_length ho1
    generalize entryArgs k ts S = ea at hb hl hbad hQ ho1 ho2
    have hfo : ∀ hv : List Value, fitsL (List.replicate ea.length .any ++ hs) (old ++ hv) ↔ fitsL hs hv := fun hv => by
      have := fits_old (old := old) (hs := hs) (hv := hv)
      rwa [ho2] at this
    have hbody := hrec _ _ hb
    -- a world that comes to the head
    let I : Nat → Act → World → Prop := fun n a w => ∃ hv, hv.length = hs.length ∧ fitsL hs hv ∧ k.p (old ++ hv) ∧ k.m (old ++ hv) = n ∧ Rel B G w0 (E.unks S.nsym hv) H.2 w ∧ SV.denL (E.unks S.nsym hv) H.1 = some a.tmps.toList ∧ a.defers = []
    have start : ∃ n, I n a w := by
      obtain ⟨hv, h1, h2, h3⟩ := comes_rel hr hH hK E.le_refl hr ht hnv0
      have key : fitsL hs hv ∧ k.p (old ++ hv) := by
        apply Classical.byContradiction
        intro hn
        refine hbad _ List.mem_cons_self rfl E w E.le_refl (hr.addFact (denL_append ho1 h1) ?_ true)
        intro hfit hp
        exact hn ⟨(hfo hv).1 hfit, hp⟩
      obtain ⟨k1, k2⟩ := h3 key.1
      exact ⟨_, hv, h2, key.1, key.2, rfl, k1, k2, drel_nil (by rw [← hds0]; exact hd)⟩
    obtain ⟨n0, hI0⟩ := start
    refine wp_loop_ghost I n0 hI0 fun n a w hI => ?_
    obtain ⟨hv, v1, v2, v3, v4, v5, v6, v7⟩ := hI
    have hle := unks_le E hv hN
    have hargs : SV.denL (E.unks S.nsym hv) (ea ++ newSyms S.nsym hs.length) = some (old ++ hv) := by
      have := denL_append (SV.denL_mono hle _ _ ho1) (newSyms_den E (N := S.nsym) (hv := hv) hs.length (by omega))
      rwa [← v1, List.take_length, v1] at this
    have hrh : Rel B G w0 (E.unks S.nsym hv) (addFact H.2 (.pred k.id k.p) (ea ++ newSyms S.nsym hs.length) false) w := v5.addFact (op := .pred k.id k.p) hargs v3 false
    refine hbody _ a w _ hrh v6 (by rw [v7]; show DRel _ H.2.ds []; rw [hH.ds, hds0]; exact trivial) (fun o ho F e a' w' h1 h2 h3 h4 h5 => ?_) (fun o ho hob F w' h1 h2 => ?_)
    · obtain ⟨b1, b2⟩ := loopOuts_back hl o ho
      have hEF := Env.le_trans hle h1
      cases hback : isBack o with
      | true =>
        obtain ⟨nv, c1, c2⟩ := b1 hback
        have hkind : e = .normal := by
          unfold isBack at hback
          simp only [Bool.and_eq_true] at hback
          obtain ⟨_, hk⟩ := hback
          cases hkk : o.kind <;> rw [hkk] at hk h5 <;> simp at hk
          exact h5
        subst hkind
        obtain ⟨hv', g1, g2, g3⟩ := comes_rel hr hH hK hEF h2 (h3 (by rw [kind_back hback]; trivial)) c1
        have hargs' : SV.denL F (ea ++ nv) = some (old ++ hv') := denL_append (SV.denL_mono hEF _ _ ho1) g1
        have hall := denL_append (SV.denL_mono h1 _ _ hargs) hargs'
        have hlen : (old ++ hv).length = ea.length + hs.length := by simp [ho2, v1]
        have key : fitsL hs hv' ∧ k.p (old ++ hv') ∧ k.m (old ++ hv') < k.m (old ++ hv) := by
          apply Classical.byContradiction
          intro hn
          refine hbad _ (List.mem_cons_of_mem _ c2) rfl F w' hEF (h2.addFact hall ?_ true)
          have d1 : ((old ++ hv) ++ (old ++ hv')).drop (ea.length + hs.length) = old ++ hv' := by rw [← hlen]; exact List.drop_left
          have d2 : ((old ++ hv) ++ (old ++ hv')).take (ea.length + hs.length) = old ++ hv := by rw [← hlen]; exact List.take_left
          show fitsL _ (List.drop _ _) → k.p (List.drop _ _) → ¬ k.m (List.drop _ _) < k.m (List.take _ _)
          rw [d1, d2]
          intro hfit hp hm
          exact hn ⟨(hfo hv').1 hfit, hp, hm⟩
        obtain ⟨k1, k2⟩ := g3 key.1
        exact ⟨_, by rw [← v4]; exact key.2.2, hv', g2, key.1, key.2.1, rfl, k1, k2, drel_nil (by rw [← (comes_ds c1).2]; exact h4)⟩
      | false =>
        have hm := b2 hback
        have hq := hQ o (List.mem_cons_of_mem _ hm) F e a' w' hEF h2 h3 h4 h5
        unfold isBack at hback
        cases hbb : o.st.bad with
        | true => exact (hbad o (List.mem_cons_of_mem _ hm) hbb F w' hEF h2).elim
        | false =>
          rw [hbb] at hback
          simp only [Bool.not_false, Bool.true_and] at hback
          cases hkk : o.kind with
          | normal => rw [hkk] at hback; cases hback
          | exit id => rw [hkk] at h5; cases h5; exact hq
          | ret => rw [hkk] at h5; cases h5; exact hq
          | val v => rw [hkk] at h5; cases h5
          | panic v => rw [hkk] at h5; obtain ⟨u, _, rfl⟩ := h5; exact hq
          | panicX v => rw [hkk] at h5; obtain ⟨u, _, rfl⟩ := h5; exact hq
    · obtain ⟨_, b2⟩ := loopOuts_back hl o ho
      have : isBack o = false := by unfold isBack; rw [hob]; rfl
      exact hbad o (List.mem_cons_of_mem _ (b2 this)) hob F w' (Env.le_trans hle h1) h2
theorem loops_ok (K : List (Nat × Nat × LSpec)) : LoopsOK B G w0 P (loops K) := by
  intro n rec hrec c ts S outs h
  unfold loops at h
  split at h
  · cases h
  split at h
  · cases h
  simp only [Option.some.injEq] at h
  split at h
  · cases h
  · exact seek_ok hrec h
def evaluateK (C : Cfg) (K : List (Nat × Nat × LSpec)) (n : Nat) (t : Task) : Option (List Out) := ev C (evAnyM C) (loops K) (resC C.P) n t
theorem evaluateK_ok {C : Cfg} (hC : CfgOK B G w0 P C) (hm : P.follows .mixedOrders = true) (K : List (Nat × Nat × LSpec)) (n : Nat) : RecOK B G w0 P n (evaluateK C K n) :=
  ev_ok hC (evAnyM_ok hC hm) (loops_ok K) (by rw [hC.prog]; exact resC_ok) n
def evaluate (C : Cfg) (n : Nat) (t : Task) : Option (List Out) := evaluateK C [] n t
theorem evaluate_ok {C : Cfg} (hC : CfgOK B G w0 P C) (hm : P.follows .mixedOrders = true) (n : Nat) : RecOK B G w0 P n (evaluate C n) := evaluateK_ok hC hm [] n
end
end Go.Ev
