/- The operations, one by one. -/
import Derived.Test.YtlpbimookmhjbaaGreatDoorEvQuiet
namespace Go.Ev
open Go.RowKit (Below)

/-- The Sem does what is told. -/
def Does (B G : Nat) (w0 : Start) (P : Program) (E : Env) (sv : SV) (S' : St) (m : Sem Value) (w : World) : Prop :=
  ∃ (F : Env) (v : Value) (w' : World), E.le F ∧ Rel B G w0 F S' w' ∧ sv.den F = some v ∧ m.run P w = .ok v w'

section
variable {B G : Nat} {w0 : Start} {E : Env} {S : St} {w : World} {P : Program}

/-- The Sem comes to what is told, and leaves every world as it is. -/
def Quiet (P : Program) (E : Env) (sv : SV) (m : Sem Value) : Prop := ∃ v : Value, sv.den E = some v ∧ ∀ w : World, m.run P w = .ok v w

theorem Quiet.does {sv : SV} {m : Sem Value} (h : Quiet P E sv m) (hr : Rel B G w0 E S w) : Does B G w0 P E sv S m w :=
  let ⟨v, h1, h2⟩ := h; ⟨E, v, w, E.le_refl, hr, h1, h2 w⟩

theorem Quiet.mk {sv : SV} {m : Sem Value} {v : Value} (hv : sv.den E = some v) (hm : ∀ w : World, m.run P w = .ok v w) : Quiet P E sv m := ⟨v, hv, hm⟩

theorem Does.here (hr : Rel B G w0 E S w) {sv : SV} {v : Value} {m : Sem Value} (hv : sv.den E = some v) (hm : m.run P w = .ok v w) : Does B G w0 P E sv S m w :=
  ⟨E, v, w, E.le_refl, hr, hv, hm⟩

/-! ### Places -/
def evFieldAddr (P : Program) (S : St) (t : TypeId) (a : SV) (f : Nat) : Option SV :=
  match norm S a with
  | .ptr id off => match P.underlying t with
    | some (.struct fields) => match fields[f]? with
      | some fd => match (P.info? fd.type).map (·.size) with
        | some (_ + 1) => some (.ptr id (off + fd.offset))
        | _ => none
      | none => none
    | _ => none
  | _ => none

theorem evFieldAddr_ok (hr : ERel E S) {t : TypeId} {a sv : SV} {f : Nat} {va : Value} (h : evFieldAddr P S t a f = some sv) (ha : a.den E = some va) :
    Quiet P E sv (Instr.fieldAt t va f) := by
  have hn := norm_den hr ha
  unfold evFieldAddr at h
  split at h
  · rename_i id off hp
    rw [hp] at hn
    obtain ⟨b, hb, rfl⟩ := ptr_den hn
    split at h
    · rename_i fields hu
      split at h
      · rename_i fd hfd
        split at h
        · rename_i n hsz
          simp only [Option.some.injEq] at h; subst h
          refine .mk (v := .pointer (some ⟨b, off + fd.offset, none⟩)) (by simp only [SV.den, hb]) fun w => ?_
          simp only [Instr.fieldAt, Sem.run_bind, run_underlying hu, Result.andThen_ok, hfd, Instr.sureAddr, Sem.run_pure, fieldPlace, run_sizeOf' hsz]
          simp [add_at]
        · cases h
      · cases h
    · cases h
  · cases h

def natOf : SV → Option Nat
  | .val (.int _ (.ofNat n)) => some n
  | _ => none

theorem natOf_ok {x : SV} {n : Nat} {v : Value} (h : natOf x = some n) (hx : x.den E = some v) : ∃ k, v = .int k (n : Int) := by
  unfold natOf at h
  split at h
  · rename_i k m
    simp only [Option.some.injEq] at h; subst h
    simp only [SV.den, Option.some.injEq] at hx
    exact ⟨k, hx.symm⟩
  · cases h

def evIndexAddr (P : Program) (S : St) (t : TypeId) (x i : SV) : Option SV :=
  match natOf i, P.underlying t with
  | some n, some (.slice e) => match x, (P.info? e).map (·.size) with
    | .slice id off len _, some sz => bif Nat.blt n len then some (.ptr id (off + n * sz)) else none
    | _, _ => none
  | some n, some (.array len e) => match norm S x, (P.info? e).map (·.size) with
    | .ptr id off, some sz => bif Nat.blt n len then some (.ptr id (off + n * sz)) else none
    | _, _ => none
  | _, _ => none

theorem evIndexAddr_ok (hr : ERel E S) {t : TypeId} {x i sv : SV} {vx vi : Value} (h : evIndexAddr P S t x i = some sv) (hx : x.den E = some vx) (hi : i.den E = some vi) :
    Quiet P E sv (Instr.indexAt t vx vi) := by
  unfold evIndexAddr at h
  split at h
  · rename_i n e hn hu
    obtain ⟨k, rfl⟩ := natOf_ok hn hi
    split at h
    · rename_i id off len c sz hsz
      cases hlt : Nat.blt n len with
      | false => rw [hlt] at h; cases h
      | true =>
        have hlt' : n < len := Nat.le_of_ble_eq_true hlt
        rw [hlt] at h
        simp only [cond_true, Option.some.injEq] at h; subst h
        obtain ⟨b, m, hb, -, rfl⟩ := slice_den hx
        refine .mk (v := .pointer (some ⟨b, off + n * sz, none⟩)) (by simp only [SV.den, hb]) fun w => ?_
        simp only [Instr.indexAt, asIntOf, Sem.run_bind, Sem.run_pure, Result.andThen_ok, run_underlying hu]
        have h1 : (0 : Int) ≤ (n : Int) ∧ (n : Int) < (len : Int) := ⟨by omega, by omega⟩
        simp [h1, run_sizeOf' hsz, add_at]
    · cases h
  · rename_i n len e hn hu
    obtain ⟨k, rfl⟩ := natOf_ok hn hi
    split at h
    · rename_i id off sz hp hsz
      cases hlt : Nat.blt n len with
      | false => rw [hlt] at h; cases h
      | true =>
        have hlt' : n < len := Nat.le_of_ble_eq_true hlt
        rw [hlt] at h
        simp only [cond_true, Option.some.injEq] at h; subst h
        have hnx := norm_den hr hx
        rw [hp] at hnx
        obtain ⟨b, hb, rfl⟩ := ptr_den hnx
        refine .mk (v := .pointer (some ⟨b, off + n * sz, none⟩)) (by simp only [SV.den, hb]) fun w => ?_
        simp only [Instr.indexAt, asIntOf, Sem.run_bind, Sem.run_pure, Result.andThen_ok, run_underlying hu, Instr.sureAddr]
        have h1 : (0 : Int) ≤ (n : Int) ∧ (n : Int) < (len : Int) := ⟨by omega, by omega⟩
        simp [h1, run_sizeOf' hsz, add_at]
    · cases h
  · cases h

/-! ### New variables -/
def evAlloc (P : Program) (S : St) (e : TypeId) : Option (SV × St) :=
  match (P.info? e).bind (·.zero) with
  | some z => some (.ptr S.next 0, newRowS S e (z.cells.toList.map .val))
  | none => none

theorem evAlloc_ok (hr : Rel B G w0 E S w) {e : TypeId} {sv : SV} {S' : St} (h : evAlloc P S e = some (sv, S')) : Does B G w0 P E sv S' (Instr.alloc e true (.tuple #[])) w := by
  unfold evAlloc at h
  split at h
  · rename_i z hz
    simp only [Option.some.injEq, Prod.mk.injEq] at h
    obtain ⟨rfl, rfl⟩ := h
    obtain ⟨F, h1, h2, h3, h4⟩ := newRow_ok (P := P) hr (e := e) (denL_vals z.cells.toList)
    refine ⟨F, .pointer (some ⟨w.heap.size, 0, none⟩), _, h1, h3, by simp only [SV.den, h2], ?_⟩
    simp only [Instr.alloc, Sem.run_bind, run_zero' hz, Result.andThen_ok, newVar]
    simp only [Array.toArray_toList] at h4
    simp [h4]
  · cases h

def evBox (S : St) (e : TypeId) (x : SV) : Option (SV × St) :=
  bif allOne S x.cells then some (.ptr S.next 0, newRowS S e x.cells) else none

theorem evBox_ok (hr : Rel B G w0 E S w) {e : TypeId} {x sv : SV} {S' : St} {vx : Value} (h : evBox S e x = some (sv, S')) (hx : x.den E = some vx) : Does B G w0 P E sv S' (Instr.box e vx) w := by
  unfold evBox at h
  cases h1 : allOne S x.cells with
  | false => rw [h1] at h; cases h
  | true =>
    rw [h1] at h
    simp only [cond_true, Option.some.injEq, Prod.mk.injEq] at h
    obtain ⟨rfl, rfl⟩ := h
    obtain ⟨F, g1, g2, g3, g4⟩ := newRow_ok (P := P) hr (e := e) (cells_den hr.env hx h1)
    refine ⟨F, .pointer (some ⟨w.heap.size, 0, none⟩), _, g1, g3, by simp only [SV.den, g2], ?_⟩
    simp only [Array.toArray_toList] at g4
    simp [Instr.box, newVar, g4]

/-! ### Aggregates -/
def fillS (S : St) (place : Nat → Option (Nat × Nat)) (cells : List SV) : List (Nat × SV) → Option (List SV)
  | [] => some cells
  | (i, x) :: r => match place i with
    | none => none
    | some (off, size) =>
      bif allOne S x.cells && (Nat.beq x.cells.length size && Nat.ble (off + size) cells.length) then fillS S place (splice off x.cells cells) r else none

theorem setAll (off : Nat) : ∀ (l : List Value) (k : Nat) (arr : List Value), off + k + l.length ≤ arr.length →
    ((l.zipIdx k).foldl (fun (cs : Array Value) (p : Value × Nat) => cs.setIfInBounds (off + p.2) p.1) arr.toArray).toList = arr.take (off + k) ++ l ++ arr.drop (off + k + l.length)
  | [], k, arr, _ => by simp
  | v :: r, k, arr, h => by
    simp only [List.length_cons] at h
    simp only [List.zipIdx_cons, List.foldl_cons, List.setIfInBounds_toArray]
    rw [setAll off r (k + 1) (arr.set (off + k) v) (by simp only [List.length_set]; omega)]
    rw [show off + (k + 1) = off + k + 1 by omega, List.drop_set_of_lt (by omega), List.take_set, List.take_succ_eq_append_getElem (by omega), List.set_append_right _ _ (by simp; omega)]
    simp only [List.length_take, List.append_assoc, List.length_cons]
    rw [show min (off + k) arr.length = off + k by omega, Nat.sub_self, show off + k + 1 + r.length = off + k + (r.length + 1) by omega]
    rfl

theorem fillS_ok (hr : ERel E S) {place : Nat → Option (Nat × Nat)} : ∀ (parts : List (Nat × SV)) (cells out : List SV) (vparts : List (Nat × Value)) (l : List Value),
    fillS S place cells parts = some out → SV.denL E cells = some l → vparts.map (·.1) = parts.map (·.1) → SV.denL E (parts.map (·.2)) = some (vparts.map (·.2)) →
    ∃ l', SV.denL E out = some l' ∧ Instr.fill place l.toArray vparts = some l'.toArray
  | [], cells, out, vparts, l, h, hl, hm, _ => by
    simp only [fillS, Option.some.injEq] at h; subst h
    have : vparts = [] := by simpa using hm
    subst this
    exact ⟨l, hl, rfl⟩
  | (i, x) :: r, cells, out, vparts, l, h, hl, hm, hd => by
    cases vparts with
    | nil => simp at hm
    | cons vp vr =>
      obtain ⟨j, u⟩ := vp
      simp only [List.map_cons, List.cons.injEq] at hm
      obtain ⟨rfl, hm⟩ := hm
      simp only [List.map_cons] at hd
      obtain ⟨u', l', hu, hd', he⟩ := denL_cons hd
      simp only [List.cons.injEq] at he
      obtain ⟨rfl, rfl⟩ := he
      simp only [fillS] at h
      simp only [Instr.fill]
      split at h
      · cases h
      · rename_i off size hp
        cases hc : allOne S x.cells && (Nat.beq x.cells.length size && Nat.ble (off + size) cells.length) with
        | false => rw [hc] at h; cases h
        | true =>
          rw [hc] at h
          simp only [cond_true] at h
          simp only [Bool.and_eq_true] at hc
          obtain ⟨h1, h2, h3⟩ := hc
          have h2 := Nat.eq_of_beq_eq_true h2
          have h3 := Nat.le_of_ble_eq_true h3
          have hcd := cells_den hr hu h1
          have hlen := denL_length hcd
          have hlen' := denL_length hl
          have hsz : u.cells.size = size := by simp at hlen; omega
          have hsp : SV.denL E (splice off x.cells cells) = some (l.take off ++ u.cells.toList ++ l.drop (off + x.cells.length)) :=
            denL_append (denL_append (denL_take off hl) hcd) (denL_drop _ hl)
          obtain ⟨l'', k1, k2⟩ := fillS_ok hr r _ out vr _ h hsp hm hd'
          refine ⟨l'', k1, ?_⟩
          have hcond : ¬ (u.cells.size ≠ size || off + u.cells.size > l.toArray.size) = true := by
            simp [hsz]; omega
          simp only [hp]
          rw [if_neg hcond]
          have := setAll off u.cells.toList 0 l (by simp; omega)
          simp only [Nat.add_zero] at this
          rw [← k2]
          congr 1
          rw [← Array.foldl_toList]
          apply Array.ext'
          simp only [Array.toList_zipIdx]
          rw [this, hlen]

def placesS (P : Program) : List Field → Option (List (Nat × Nat))
  | [] => some []
  | f :: r => match (P.info? f.type).map (·.size), placesS P r with
    | some n, some l => some ((f.offset, n) :: l)
    | _, _ => none

theorem placesS_run : ∀ {fs : List Field} {l : List (Nat × Nat)}, placesS P fs = some l → ∀ w : World, ((fs.mapM fun f => do pure (f.offset, ← sizeOf f.type)) : Sem (List (Nat × Nat))).run P w = .ok l w
  | [], l, h, w => by simp only [placesS, Option.some.injEq] at h; subst h; rfl
  | f :: r, l, h, w => by
    simp only [placesS] at h
    split at h
    · rename_i n l' hn hl
      simp only [Option.some.injEq] at h; subst h
      simp only [List.mapM_cons, Sem.run_bind, run_sizeOf' hn, Result.andThen_ok, Sem.run_pure, placesS_run hl]
    · cases h

def evBuild (P : Program) (S : St) (t : TypeId) (parts : List (Nat × SV)) : Option SV :=
  match (P.info? t).bind (·.zero), P.underlying t with
  | some z, some (.struct fields) => match placesS P fields.toList with
    | some pl => match fillS S (pl[·]?) (z.cells.toList.map .val) parts with
      | some cs => some (.agg cs)
      | none => none
    | none => none
  | some z, some (.array _ e) => match (P.info? e).map (·.size) with
    | some n => match fillS S (fun i => some (i * n, n)) (z.cells.toList.map .val) parts with
      | some cs => some (.agg cs)
      | none => none
    | none => none
  | _, _ => none

theorem evBuild_ok (hr : ERel E S) {t : TypeId} {parts : List (Nat × SV)} {sv : SV} (h : evBuild P S t parts = some sv) {vparts : Array (Nat × Value)}
    (hm : vparts.toList.map (·.1) = parts.map (·.1)) (hd : SV.denL E (parts.map (·.2)) = some (vparts.toList.map (·.2))) : Quiet P E sv (Instr.build t vparts) := by
  unfold evBuild at h
  split at h
  · rename_i z fields hz hu
    split at h
    · rename_i pl hpl
      split at h
      · rename_i cs hcs
        simp only [Option.some.injEq] at h; subst h
        obtain ⟨l', k1, k2⟩ := fillS_ok hr parts _ cs vparts.toList _ hcs (denL_vals z.cells.toList) hm hd
        refine .mk (v := .agg l'.toArray) (by simp only [SV.den, k1]) fun w => ?_
        have hrun := placesS_run (P := P) hpl w
        have hmap : ((fields.mapM fun f => do pure (f.offset, ← sizeOf f.type)) : Sem (Array (Nat × Nat))).run P w = .ok pl.toArray w := by
          rw [← Array.toArray_toList (xs := fields), List.mapM_toArray, Sem.run_map, hrun]; rfl
        simp only [Instr.build, Sem.run_bind, run_zero' hz, run_underlying hu, Result.andThen_ok, hmap]
        simp only [List.getElem?_toArray]
        simp only [Array.toArray_toList] at k2
        simp only [k2]
        rfl
      · cases h
    · cases h
  · rename_i z n e hz hu
    split at h
    · rename_i sz hsz
      split at h
      · rename_i cs hcs
        simp only [Option.some.injEq] at h; subst h
        obtain ⟨l', k1, k2⟩ := fillS_ok hr parts _ cs vparts.toList _ hcs (denL_vals z.cells.toList) hm hd
        refine .mk (v := .agg l'.toArray) (by simp only [SV.den, k1]) fun w => ?_
        simp only [Instr.build, Sem.run_bind, run_zero' hz, run_underlying hu, Result.andThen_ok, run_sizeOf' hsz]
        simp only [Array.toArray_toList] at k2
        simp only [k2]
        rfl
      · cases h
    · cases h
  · cases h

def zerosOf (z : List Value) (n : Nat) : List SV := (List.range n).map fun i => .val (z.getD (i % z.length) default)

theorem zerosOf_den (z : Array Value) (n : Nat) : SV.denL E (zerosOf z.toList n) = some ((Array.range n).map (fun i => z[i % z.size]!)).toList := by
  have : zerosOf z.toList n = ((List.range n).map fun i => z.toList.getD (i % z.toList.length) default).map .val := by simp [zerosOf]
  rw [this, denL_vals]
  simp only [Array.toList_map, Array.toList_range, Array.length_toList, Option.some.injEq]
  refine List.map_congr_left fun i _ => ?_
  simp [List.getD, getElem!_def]
  cases z[i % z.size]? <;> rfl

def evBuildSlice (P : Program) (S : St) (t : TypeId) (len : Nat) (parts : List (Nat × SV)) : Option (SV × St) :=
  match P.underlying t with
  | some (.slice e) => match P.info? e with
    | some inf => match inf.zero with
      | some z =>
        bif Nat.ble (len * inf.size) 16777216 then
          match fillS S (fun i => some (i * inf.size, inf.size)) (zerosOf (bif Nat.beq (len * inf.size) 0 then [] else z.cells.toList) (len * inf.size)) parts with
          | some cs => some (.slice S.next 0 len (.k len), newRowS S e cs)
          | none => none
        else none
      | none => none
    | none => none
  | _ => none

theorem evBuildSlice_ok (hr : Rel B G w0 E S w) {t : TypeId} {len : Nat} {parts : List (Nat × SV)} {sv : SV} {S' : St} (h : evBuildSlice P S t len parts = some (sv, S')) {vparts : Array (Nat × Value)}
    (hm : vparts.toList.map (·.1) = parts.map (·.1)) (hd : SV.denL E (parts.map (·.2)) = some (vparts.toList.map (·.2))) : Does B G w0 P E sv S' (Instr.buildSlice t len vparts) w := by
  unfold evBuildSlice at h
  split at h
  · rename_i e hu
    split at h
    · rename_i inf hi
      split at h
      · rename_i z hz
        cases hle : Nat.ble (len * inf.size) 16777216 with
        | false => rw [hle] at h; cases h
        | true =>
          rw [hle] at h
          simp only [cond_true] at h
          split at h
          · rename_i cs hcs
            simp only [Option.some.injEq, Prod.mk.injEq] at h
            obtain ⟨rfl, rfl⟩ := h
            have hle := Nat.le_of_ble_eq_true hle
            have hsz : (P.info? e).map (·.size) = some inf.size := by rw [hi]; rfl
            have hzz : (P.info? e).bind (·.zero) = some z := by rw [hi]; exact hz
            have hzeros : ∀ zz : Array Value, zz.toList = (bif Nat.beq (len * inf.size) 0 then [] else z.cells.toList) →
                SV.denL E (zerosOf (bif Nat.beq (len * inf.size) 0 then [] else z.cells.toList) (len * inf.size)) = some ((Array.range (len * inf.size)).map (fun i => zz[i % zz.size]!)).toList := fun zz hzz => by
              rw [← hzz]; exact zerosOf_den zz _
            obtain ⟨zz, hzz1, hzz2, hzz3⟩ : ∃ zz : Array Value, zz.toList = (bif Nat.beq (len * inf.size) 0 then [] else z.cells.toList) ∧ (len * inf.size = 0 → zz = #[]) ∧ (¬ len * inf.size = 0 → zz = z.cells) := by
              by_cases h0 : len * inf.size = 0
              · exact ⟨#[], by simp [h0], fun _ => rfl, fun h => absurd h0 h⟩
              · refine ⟨z.cells, ?_, fun h => absurd h h0, fun _ => rfl⟩
                have : Nat.beq (len * inf.size) 0 = false := by rw [← Bool.not_eq_true]; exact fun e => h0 (Nat.eq_of_beq_eq_true e)
                simp [this]
            obtain ⟨l', k1, k2⟩ := fillS_ok hr.env parts _ cs vparts.toList _ hcs (hzeros zz hzz1) hm hd
            obtain ⟨F, g1, g2, g3, g4⟩ := newRow_ok (P := P) hr (e := e) k1
            refine ⟨F, .slice (some ⟨w.heap.size, 0, none⟩) len len, _, g1, g3, by simp only [SV.den, g2, Cap.den], ?_⟩
            have h24 : ¬ (len * inf.size > 2 ^ 24) := by omega
            simp only [Instr.buildSlice, Sem.run_bind, run_underlying hu, Result.andThen_ok, run_sizeOf' hsz, h24, if_false]
            simp only [Array.toArray_toList] at k2
            by_cases h0 : len * inf.size = 0
            · rw [if_pos h0]
              have := hzz2 h0; subst this
              simp only [Sem.run_bind, Sem.run_pure, Result.andThen_ok, k2, g4]
            · rw [if_neg h0]
              have := hzz3 h0; subst this
              simp only [Sem.run_bind, run_zero' hzz, Sem.run_pure, Result.andThen_ok, k2, g4]
          · cases h
      · cases h
    · cases h
  · cases h

def partS (P : Program) (t : TypeId) (cs : List SV) (off : Nat) : Option SV :=
  match P.underlying t with
  | none => none
  | some d => bif isAggD d then
      match (P.info? t).map (·.size) with
      | some n => some (.agg ((cs.drop off).take n))
      | none => none
    else cs[off]?

theorem partS_ok {t : TypeId} {cs : List SV} {off : Nat} {sv : SV} {l : List Value} (h : partS P t cs off = some sv) (hl : SV.denL E cs = some l) :
    ∃ v, sv.den E = some v ∧ ∀ w : World, (part t l.toArray off).run P w = .ok v w := by
  unfold partS at h
  split at h
  · cases h
  · rename_i d hd
    cases hagg : isAggD d with
    | true =>
      rw [hagg] at h
      simp only [cond_true] at h
      split at h
      · rename_i n hsz
        simp only [Option.some.injEq] at h; subst h
        refine ⟨.agg ((l.drop off).take n).toArray, by simp only [SV.den, denL_take n (denL_drop off hl)], fun w => ?_⟩
        simp only [part, Sem.run_bind, run_isAgg' hd, Result.andThen_ok, hagg, if_true, run_sizeOf' hsz, Sem.run_pure]
        congr 2
        apply Array.ext'
        simp [List.extract_eq_take_drop]
      · cases h
    | false =>
      rw [hagg] at h
      simp only [cond_false] at h
      obtain ⟨v, hv, hden⟩ := denL_get hl h
      refine ⟨v, hden, fun w => ?_⟩
      simp only [part, Sem.run_bind, run_isAgg' hd, Result.andThen_ok, hagg, Bool.false_eq_true, if_false]
      simp [hv]

def aggOf : SV → Option (List SV)
  | .agg cs => some cs
  | .val (.agg cs) => some (cs.toList.map .val)
  | _ => none

theorem aggOf_den {x : SV} {cs : List SV} {v : Value} (h : aggOf x = some cs) (hx : x.den E = some v) : ∃ l, SV.denL E cs = some l ∧ v = .agg l.toArray := by
  unfold aggOf at h
  split at h
  · simp only [Option.some.injEq] at h; subst h; exact agg_den hx
  · rename_i c
    simp only [Option.some.injEq] at h; subst h
    simp only [SV.den, Option.some.injEq] at hx; subst hx
    exact ⟨c.toList, denL_vals _, by simp⟩
  · cases h

def evField (P : Program) (t : TypeId) (x : SV) (f : Nat) : Option SV :=
  match aggOf x, P.underlying t with
  | some cs, some (.struct fields) => match fields[f]? with
    | some fd => partS P fd.type cs fd.offset
    | none => none
  | _, _ => none

theorem evField_ok {t : TypeId} {x sv : SV} {f : Nat} {vx : Value} (h : evField P t x f = some sv) (hx : x.den E = some vx) : Quiet P E sv (Instr.field t vx f) := by
  unfold evField at h
  split at h
  · rename_i cs fields hc hu
    split at h
    · rename_i fd hfd
      obtain ⟨l, hl, rfl⟩ := aggOf_den hc hx
      obtain ⟨v, hv, hrun⟩ := partS_ok h hl
      exact .mk hv (fun w => by simp only [Instr.field, Sem.run_bind, run_underlying hu, Result.andThen_ok, hfd, asAgg, Sem.run_pure, hrun])
    · cases h
  · cases h

def evIndex (P : Program) (t : TypeId) (x i : SV) : Option SV :=
  match aggOf x, natOf i, P.underlying t with
  | some cs, some n, some (.array len e) => match (P.info? e).map (·.size) with
    | some sz => bif Nat.blt n len then partS P e cs (n * sz) else none
    | none => none
  | _, _, _ => none

theorem evIndex_ok {t : TypeId} {x i sv : SV} {vx vi : Value} (h : evIndex P t x i = some sv) (hx : x.den E = some vx) (hi : i.den E = some vi) : Quiet P E sv (Instr.index t vx vi) := by
  unfold evIndex at h
  split at h
  · rename_i cs n len e hc hn hu
    split at h
    · rename_i sz hsz
      cases hlt : Nat.blt n len with
      | false => rw [hlt] at h; cases h
      | true =>
        have hlt' : n < len := Nat.le_of_ble_eq_true hlt
        rw [hlt] at h
        simp only [cond_true] at h
        obtain ⟨l, hl, rfl⟩ := aggOf_den hc hx
        obtain ⟨k, rfl⟩ := natOf_ok hn hi
        obtain ⟨v, hv, hrun⟩ := partS_ok h hl
        refine .mk hv fun w => ?_
        have h1 : (0 : Int) ≤ (n : Int) ∧ (n : Int) < (len : Int) := ⟨by omega, by omega⟩
        simp only [Instr.index, asIntOf, Sem.run_bind, Sem.run_pure, Result.andThen_ok, run_underlying hu]
        simp only [h1, and_self, if_true, Sem.run_bind, run_sizeOf' hsz, Result.andThen_ok, Int.toNat_natCast, hrun]
    · cases h
  · cases h

def tupOf : SV → Option (List SV)
  | .tuple cs => some cs
  | .val (.tuple cs) => some (cs.toList.map .val)
  | _ => none

theorem tupOf_den {x : SV} {cs : List SV} {v : Value} (h : tupOf x = some cs) (hx : x.den E = some v) : ∃ l, SV.denL E cs = some l ∧ v = .tuple l.toArray := by
  unfold tupOf at h
  split at h
  · simp only [Option.some.injEq] at h; subst h
    simp only [SV.den] at hx
    split at hx
    · rename_i l hl; simp only [Option.some.injEq] at hx; exact ⟨l, hl, hx.symm⟩
    · cases hx
  · rename_i c
    simp only [Option.some.injEq] at h; subst h
    simp only [SV.den, Option.some.injEq] at hx; subst hx
    exact ⟨c.toList, denL_vals _, by simp⟩
  · cases h

def evExtract (x : SV) (i : Nat) : Option SV :=
  match tupOf x with
  | some cs => cs[i]?
  | none => none

theorem evExtract_ok {x sv : SV} {i : Nat} {vx : Value} (h : evExtract x i = some sv) (hx : x.den E = some vx) : Quiet P E sv (Instr.extract vx i) := by
  unfold evExtract at h
  split at h
  · rename_i cs hc
    obtain ⟨l, hl, rfl⟩ := tupOf_den hc hx
    obtain ⟨v, hv, hd⟩ := denL_get hl h
    exact .mk hd (fun w => by simp [Instr.extract, hv])
  · cases h
end
end Go.Ev
