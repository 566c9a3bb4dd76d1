/- Loads, stores and new blocks over what is told of memory. -/
import Derived.Test.YtlpbimookmhjbaaGreatDoorEvCode
namespace Go.Ev
open Go.RowKit (Below)

/-! ### Runs that ask neither memory nor the tape -/
/-! ### Values without places -/
mutual
def SV.conc : SV → Option Value
  | .val v => some v
  | .agg cs => match concL cs with
    | some l => some (.agg l.toArray)
    | none => none
  | .tuple cs => match concL cs with
    | some l => some (.tuple l.toArray)
    | none => none
  | .iface t v => match v.conc with
    | some x => some (.iface t x)
    | none => none
  | .func fn f c => match concL f, concL c with
    | some a, some b => some (.func fn a.toArray b.toArray)
    | _, _ => none
  | _ => none
def concL : List SV → Option (List Value)
  | [] => some []
  | x :: r => match x.conc, concL r with
    | some v, some l => some (v :: l)
    | _, _ => none
end

mutual
theorem conc_den {E : Env} : ∀ (x : SV) (v : Value), x.conc = some v → x.den E = some v
  | .val v, w, h => by simpa only [SV.den, SV.conc] using h
  | .agg cs, w, h => by
    simp only [SV.conc] at h; split at h
    · rename_i l hl; simp only [SV.den, concL_den _ _ hl]; exact h
    · cases h
  | .tuple cs, w, h => by
    simp only [SV.conc] at h; split at h
    · rename_i l hl; simp only [SV.den, concL_den _ _ hl]; exact h
    · cases h
  | .iface t v, w, h => by
    simp only [SV.conc] at h; split at h
    · rename_i l hl; simp only [SV.den, conc_den _ _ hl]; exact h
    · cases h
  | .func fn f c, w, h => by
    simp only [SV.conc] at h; split at h
    · rename_i a b ha hb; simp only [SV.den, concL_den _ _ ha, concL_den _ _ hb]; exact h
    · cases h
  | .sym _, w, h | .ptr _ _, w, h | .slice _ _ _ _, w, h | .map _, w, h => by simp [SV.conc] at h
theorem concL_den {E : Env} : ∀ (x : List SV) (v : List Value), concL x = some v → SV.denL E x = some v
  | [], w, h => by simpa only [SV.denL, concL] using h
  | x :: r, w, h => by
    simp only [concL] at h; split at h
    · rename_i a b ha hb; simp only [SV.denL, conc_den _ _ ha, concL_den _ _ hb]; exact h
    · cases h
end

def allConc (ev : Operand → SV) : List Operand → Bool
  | [] => true
  | x :: r => match (ev x).conc with
    | some _ => allConc ev r
    | none => false

def evc (ev : Operand → SV) (x : Operand) : Value := match (ev x).conc with
  | some v => v
  | none => undef

theorem allConc_mem {ev : Operand → SV} : ∀ {l : List Operand}, allConc ev l = true → ∀ x ∈ l, (ev x).conc = some (evc ev x)
  | [], _, x, hx => by cases hx
  | y :: r, h, x, hx => by
    simp only [allConc] at h
    split at h
    · rename_i v hv
      cases hx with
      | head => simp only [evc, hv]
      | tail _ hx => exact allConc_mem h x hx
    · cases h

def isSelect : Op → Bool
  | .select .. => true
  | _ => false

/-- An operation over values without places that asks neither memory nor the tape. -/
def opConc (P : Program) (ev : Operand → SV) (o : Oper) : Option SV :=
  bif isSelect o.op then none else
  bif allConc ev o.op.operands.toList then
    match pureRun P (execOp (evc ev) o) with
    | some (.value v) => some (.val v)
    | _ => none
  else none

theorem opConc_ok {P : Program} {ev : Operand → SV} {o : Oper} {sv : SV} (h : opConc P ev o = some sv) {E : Env} {evr : Operand → Value} (he : ∀ x, (ev x).den E = some (evr x)) :
    ∃ v, sv.den E = some v ∧ ∀ w, (execOp evr o).run P w = .ok (.value v) w := by
  unfold opConc at h
  cases hs : isSelect o.op with
  | true => rw [hs] at h; simp at h
  | false =>
    rw [hs] at h
    simp only [cond_false] at h
    cases hc : allConc ev o.op.operands.toList with
    | false => rw [hc] at h; simp at h
    | true =>
      rw [hc] at h
      simp only [cond_true] at h
      split at h
      · rename_i v hv
        simp only [Option.some.injEq] at h; subst h
        refine ⟨v, by simp only [SV.den], fun w => ?_⟩
        have : execOp evr o = execOp (evc ev) o := execOp_congr o (fun cs b e => by rw [e] at hs; simp [isSelect] at hs) fun x hx => by
          have := conc_den (E := E) _ _ (allConc_mem hc x (by simpa using hx))
          rw [he x] at this
          exact Option.some.inj this
        rw [this]
        exact pureRun_run hv w
      · cases h

/-! ### Cells -/
theorem add_at (b o n : Nat) : (⟨b, o, none⟩ : Addr).add n = ⟨b, o + n, none⟩ := by unfold Addr.add; split <;> simp_all

/-- An address of a package-level variable, by its place. -/
def norm (S : St) : SV → SV
  | .val (.pointer (some ⟨b, off, none⟩)) => bif isInN b S.gs then .ptr b off else .val (.pointer (some ⟨b, off, none⟩))
  | x => x

section
variable {B G : Nat} {w0 : Start} {E : Env} {S : St} {w : World} {P : Program}

theorem norm_den (h : ERel E S) {x : SV} {v : Value} (hx : x.den E = some v) : (norm S x).den E = some v := by
  unfold norm
  split
  · rename_i b off
    cases hb : isInN b S.gs with
    | true =>
      simp only [cond_true, SV.den, h.glob b hb]
      simpa only [SV.den] using hx
    | false => exact hx
  · exact hx

theorem ptr_den {id off : Nat} {v : Value} (h : (SV.ptr id off).den E = some v) : ∃ b, E.ρ id = some b ∧ v = .pointer (some ⟨b, off, none⟩) := by
  simp only [SV.den] at h
  split at h
  · rename_i b hb; simp only [Option.some.injEq] at h; exact ⟨b, hb, h.symm⟩
  · cases h

theorem slice_den {id off len : Nat} {c : Cap} {v : Value} (h : (SV.slice id off len c).den E = some v) : ∃ b n, E.ρ id = some b ∧ c.den E = some n ∧ v = .slice (some ⟨b, off, none⟩) len n := by
  simp only [SV.den] at h
  split at h
  · rename_i b n hb hn; simp only [Option.some.injEq] at h; exact ⟨b, n, hb, hn, h.symm⟩
  · cases h

theorem agg_den {cs : List SV} {v : Value} (h : (SV.agg cs).den E = some v) : ∃ l, SV.denL E cs = some l ∧ v = .agg l.toArray := by
  simp only [SV.den] at h
  split at h
  · rename_i l hl; simp only [Option.some.injEq] at h; exact ⟨l, hl, h.symm⟩
  · cases h

/-- A row of cells, as the world has it. -/
theorem row_at (h : Rel B G w0 E S w) {id b : Nat} {cs : List SV} {e : TypeId} {wr : Bool} {ext : Option (Nat × Nat)} (hf : find id S.heap = some (.row cs e wr ext)) (hb : E.ρ id = some b) :
    ∃ l r fz, w.heap[b]? = some (.cells (l ++ r).toArray e fz) ∧ SV.denL E cs = some l ∧ (wr = true → Thawed (l ++ r).length fz) ∧
      (ext = none → r = []) ∧ (∀ i u, ext = some (i, u) → ∃ n, E.κ i = some n ∧ (l ++ r).length = n * u) := by
  obtain ⟨b', x, h1, h2, h3⟩ := h.heap id _ hf
  rw [hb] at h1; cases h1
  cases ext with
  | none =>
    obtain ⟨l, fz, k1, rfl, k3⟩ := h3
    exact ⟨l, [], fz, by simpa using h2, k1, by simpa using k3, fun _ => rfl, fun i u hi => (by cases hi)⟩
  | some p =>
    obtain ⟨i, u⟩ := p
    obtain ⟨l, r, n, fz, k1, k2, k3, rfl, k5⟩ := h3
    exact ⟨l, r, fz, h2, k1, k5, fun hi => (by cases hi), fun i' u' hi => (by cases hi; exact ⟨n, k2, k3⟩)⟩

theorem cell_at {w : World} {b off : Nat} {c : Array Value} {e : TypeId} {fz : Nat × Nat} (h : w.heap[b]? = some (.cells c e fz)) : w.cell? ⟨b, off, none⟩ = c[off]? := by simp [World.cell?, h]

/-- What a run of loads comes to. -/
theorem loads_run {w : World} {b off : Nat} {c : List Value} {e : TypeId} {fz : Nat × Nat} (h : w.heap[b]? = some (.cells c.toArray e fz)) {n : Nat} (hn : off + n ≤ c.length) :
    (loadCells ⟨b, off, none⟩ n).run P w = .ok ((c.drop off).take n).toArray w := by
  have := run_loadCells_list (P := P) w ⟨b, off, none⟩ ((c.drop off).take n) (fun j v hj => by
    rw [add_at, cell_at h]
    have hjn : j < n := by
      rcases Nat.lt_or_ge j n with h' | h'
      · exact h'
      · rw [List.getElem?_take, if_neg (by omega)] at hj; cases hj
    rw [List.getElem?_take_of_lt hjn, List.getElem?_drop] at hj
    simpa using hj)
  rwa [show ((c.drop off).take n).length = n from by simp; omega] at this

def isAggD : TypeDesc → Bool
  | .struct _ | .array _ _ => true
  | _ => false

theorem run_isAgg' {t : TypeId} {d : TypeDesc} (h : P.underlying t = some d) (w : World) : (isAgg t).run P w = .ok (isAggD d) w := by
  simp only [isAgg, Sem.run_bind, run_underlying h, Result.andThen_ok]
  cases d <;> rfl

theorem run_sizeOf' {t : TypeId} {n : Nat} (h : (P.info? t).map (·.size) = some n) (w : World) : (sizeOf t).run P w = .ok n w := by
  cases hi : P.info? t with
  | none => rw [hi] at h; cases h
  | some i =>
    rw [hi] at h
    simp only [Option.map_some, Option.some.injEq] at h
    subst h
    simp [sizeOf, typeInfo, hi]

theorem run_zero' {t : TypeId} {v : Value} (h : (P.info? t).bind (·.zero) = some v) (w : World) : (zeroValue t).run P w = .ok v w := by
  cases hi : P.info? t with
  | none => rw [hi] at h; cases h
  | some i =>
    rw [hi] at h
    simp only [Option.bind_some] at h
    simp [zeroValue, typeInfo, hi, h]

/-- A load. -/
def evLoad (P : Program) (S : St) (t : TypeId) (a : SV) : Option SV :=
  match norm S a with
  | .ptr id off => match find id S.heap with
    | some (.row cs _ _ _) => match P.underlying t with
      | none => none
      | some d => bif isAggD d then
          match (P.info? t).map (·.size) with
          | none => none
          | some n => bif Nat.ble (off + n) cs.length then some (.agg ((cs.drop off).take n)) else none
        else cs[off]?
    | _ => none
  | _ => none

theorem evLoad_ok (hr : Rel B G w0 E S w) {t : TypeId} {a sv : SV} {va : Value} (h : evLoad P S t a = some sv) (ha : a.den E = some va) :
    ∃ v, sv.den E = some v ∧ (Instr.loadAt t va).run P w = .ok v w := by
  have hn := norm_den hr.env ha
  unfold evLoad at h
  split at h
  · rename_i id off hp
    rw [hp] at hn
    obtain ⟨b, hb, rfl⟩ := ptr_den hn
    split at h
    · rename_i cs e wr ext hf
      obtain ⟨l, r, fz, hh, hl, -, -, -⟩ := row_at hr hf hb
      have hlen := denL_length hl
      split at h
      · cases h
      · rename_i d hd
        cases hagg : isAggD d with
        | true =>
          rw [hagg] at h
          simp only [cond_true] at h
          split at h
          · cases h
          · rename_i n hsz
            cases hle : Nat.ble (off + n) cs.length with
            | false => rw [hle] at h; simp at h
            | true =>
              rw [hle] at h
              simp only [cond_true, Option.some.injEq] at h
              subst h
              have hle := Nat.le_of_ble_eq_true hle
              refine ⟨.agg ((l.drop off).take n).toArray, by simp only [SV.den, denL_take n (denL_drop off hl)], ?_⟩
              have hrun := loads_run (P := P) hh (off := off) (n := n) (by simp; omega)
              have : ((l ++ r).drop off).take n = (l.drop off).take n := by
                rw [List.drop_append_of_le_length (by omega), List.take_append_of_le_length (by simp; omega)]
              rw [this] at hrun
              simp only [Instr.loadAt, Instr.sureAddr, loadVar, Sem.run_bind, Sem.run_pure, Result.andThen_ok, run_isAgg' hd, hagg, if_true, run_sizeOf' hsz, hrun]
        | false =>
          rw [hagg] at h
          simp only [cond_false] at h
          obtain ⟨v, hv, hden⟩ := denL_get hl h
          refine ⟨v, hden, ?_⟩
          have hc : w.cell? ⟨b, off, none⟩ = some v := by
            rw [cell_at hh]
            simp only [List.getElem?_toArray]
            rw [List.getElem?_append_left (by
              rcases Nat.lt_or_ge off l.length with h' | h'
              · exact h'
              · simp [List.getElem?_eq_none h'] at hv)]
            exact hv
          simp only [Instr.loadAt, Instr.sureAddr, loadVar, Sem.run_bind, Sem.run_pure, Result.andThen_ok, run_isAgg' hd, hagg, Bool.false_eq_true, if_false, run_load, hc]
    · cases h
  · cases h

/-- The cells of a value. -/
def SV.cells : SV → List SV
  | .agg cs => cs
  | .val (.agg cs) => cs.toList.map .val
  | x => [x]

theorem cells_one {v : Value} (h : ∀ cs, v ≠ .agg cs) : v.cells = #[v] := by cases v <;> first | rfl | exact absurd rfl (h _)

/-- May it stand in one cell? -/
def oneS (S : St) : SV → Bool
  | .val v => v.oneCell'
  | .sym n => match find n S.sorts with
    | some .any => false
    | some (.is v) => v.oneCell'
    | some _ => true
    | none => false
  | .agg _ | .tuple _ => false
  | _ => true

theorem oneS_ok (hr : ERel E S) {x : SV} {v : Value} (h : oneS S x = true) (hx : x.den E = some v) : v.oneCell' = true := by
  cases x with
  | val u => simp only [SV.den, Option.some.injEq] at hx; subst hx; exact h
  | sym n =>
    simp only [oneS] at h
    split at h
    · cases h
    · rename_i u0 hs
      obtain ⟨u, hu, hfit⟩ := hr.sorts _ _ hs
      simp only [SV.den] at hx; rw [hu] at hx; cases hx
      have : v = u0 := hfit
      subst this; exact h
    · rename_i s hs hi hne
      obtain ⟨u, hu, hfit⟩ := hr.sorts _ _ hne
      simp only [SV.den] at hx; rw [hu] at hx; cases hx
      cases s with
      | any => exact (hs rfl).elim
      | is v => exact (hi v rfl).elim
      | strNot l => obtain ⟨b, rfl, _⟩ := hfit; rfl
      | intIn k lo hi => obtain ⟨b, rfl, _⟩ := hfit; rfl
      | nan64 => obtain ⟨b, rfl, _⟩ := hfit; rfl
      | cell => exact hfit
      | bool => obtain ⟨b, rfl⟩ := hfit; rfl
      | int k => obtain ⟨b, rfl⟩ := hfit; rfl
      | float k => obtain ⟨b, rfl⟩ := hfit; rfl
      | str => obtain ⟨b, rfl⟩ := hfit; rfl
    · cases h
  | ptr id off => obtain ⟨b, _, rfl⟩ := ptr_den hx; rfl
  | slice id off len c => obtain ⟨b, n, _, _, rfl⟩ := slice_den hx; rfl
  | map id => simp only [SV.den] at hx; split at hx <;> cases hx; rfl
  | func fn f c => simp only [SV.den] at hx; split at hx <;> cases hx; rfl
  | iface t u => simp only [SV.den] at hx; split at hx <;> cases hx; rfl
  | agg cs => cases h
  | tuple cs => cases h

def allOne (S : St) : List SV → Bool
  | [] => true
  | x :: r => bif oneS S x then allOne S r else false

theorem allOne_ok (hr : ERel E S) : ∀ {xs : List SV} {l : List Value}, allOne S xs = true → SV.denL E xs = some l → ∀ v ∈ l, v.oneCell' = true
  | [], l, _, hl, v, hv => by simp only [SV.denL, Option.some.injEq] at hl; subst hl; cases hv
  | x :: r, l, h, hl, v, hv => by
    obtain ⟨u, l', h1, h2, rfl⟩ := denL_cons hl
    simp only [allOne] at h
    cases ho : oneS S x with
    | false => rw [ho] at h; cases h
    | true =>
      rw [ho] at h
      cases hv with
      | head => exact oneS_ok hr ho h1
      | tail _ hv => exact allOne_ok hr h h2 v hv

/-- The cells of what a value stands for (but for an unknown of any kind). -/
theorem cells_den (hr : ERel E S) {x : SV} {v : Value} (hx : x.den E = some v) (h1 : allOne S x.cells = true) : SV.denL E x.cells = some v.cells.toList := by
  have single : x.cells = [x] → (∀ cs, v ≠ .agg cs) → SV.denL E x.cells = some v.cells.toList := fun h h' => by
    rw [h, cells_one h']; simpa using denL_mk hx (r := []) rfl
  cases x with
  | agg cs => obtain ⟨l, hl, rfl⟩ := agg_den hx; simpa [SV.cells, Value.cells] using hl
  | val u =>
    simp only [SV.den, Option.some.injEq] at hx; subst hx
    cases u with
    | agg cs => simpa [SV.cells, Value.cells] using denL_vals cs.toList
    | _ => simpa [SV.cells, Value.cells] using denL_vals [_]
  | sym n =>
    refine single rfl fun cs e => ?_
    subst e
    have h2 := h1
    simp only [SV.cells, allOne] at h2
    cases ho : oneS S (.sym n) with
    | false => rw [ho] at h2; cases h2
    | true => have := oneS_ok hr ho hx; simp [Value.oneCell'] at this
  | ptr id off => obtain ⟨b, _, rfl⟩ := ptr_den hx; exact single rfl (fun cs e => by cases e)
  | slice id off len c => obtain ⟨b, n, _, _, rfl⟩ := slice_den hx; exact single rfl (fun cs e => by cases e)
  | map id => simp only [SV.den] at hx; split at hx <;> cases hx; refine single rfl (fun cs e => by cases e)
  | func fn f c => simp only [SV.den] at hx; split at hx <;> cases hx; refine single rfl (fun cs e => by cases e)
  | iface t u => simp only [SV.den] at hx; split at hx <;> cases hx; refine single rfl (fun cs e => by cases e)
  | tuple cs => simp [SV.cells, allOne, oneS] at h1

/-- Cells stored from a place on: what the block holds then. -/
theorem stores_run {b off : Nat} {e : TypeId} {fz : Nat × Nat} : ∀ (vs : List Value) (i : Nat) (c : List Value) (w : World), w.heap[b]? = some (.cells c.toArray e fz) → Thawed c.length fz →
    off + i + vs.length ≤ c.length → (∀ v ∈ vs, v.oneCell' = true) →
    ∃ w', (storeCells ⟨b, off, none⟩ vs i).run P w = .ok () w' ∧ w'.heap[b]? = some (.cells (c.take (off + i) ++ vs ++ c.drop (off + i + vs.length)).toArray e fz) ∧
      w'.heap.size = w.heap.size ∧ (∀ k, k ≠ b → w'.heap[k]? = w.heap[k]?) ∧ w'.tape = w.tape ∧ w'.os = w.os ∧ w'.output = w.output
  | [], i, c, w, h, _, _, _ => ⟨w, rfl, by simpa using h, rfl, fun _ _ => rfl, rfl, rfl, rfl⟩
  | v :: r, i, c, w, h, hz, hl, h1 => by
    simp only [List.length_cons] at hl
    have hlt : off + i < c.length := by omega
    have hcell : w.cell? ⟨b, off + i, none⟩ = some c[off + i] := by rw [cell_at h]; simp [hlt]
    have hfro : w.frozen? ⟨b, off + i, none⟩ = false := by
      simp only [World.frozen?, h]
      exact hz (off + i) (by omega)
    have hst : (store ((⟨b, off, none⟩ : Addr).add i) v).run P w = .ok () (w.setCell ⟨b, off + i, none⟩ v) := by
      rw [add_at, run_store P w _ v _ (h1 v (by simp)), hcell]
      simp [hfro]
    have hb' : (w.setCell ⟨b, off + i, none⟩ v).heap[b]? = some (.cells (c.set (off + i) v).toArray e fz) := by
      simp only [World.setCell, Array.getElem?_modify, h]
      simp
    obtain ⟨w', k1, k2, k3, k4, k5, k6, k7⟩ := stores_run (off := off) r (i + 1) (c.set (off + i) v) _ hb' (by simpa using hz) (by simp only [List.length_set]; omega) (fun x hx => h1 x (by simp [hx]))
    refine ⟨w', ?_, ?_, ?_, ?_, k5, k6, k7⟩
    · simp only [storeCells, Sem.run_bind, hst, Result.andThen_ok, k1]
    · rw [k2]
      congr 2
      rw [show off + (i + 1) = off + i + 1 by omega, List.drop_set_of_lt (by omega), List.take_set, List.take_succ_eq_append_getElem hlt, List.set_append_right _ _ (by simp; omega)]
      simp only [List.length_take, List.append_assoc, List.length_cons]
      rw [show min (off + i) c.length = off + i by omega, Nat.sub_self, show off + i + 1 + r.length = off + i + (r.length + 1) by omega]
      rfl
    · rw [k3]; simp [World.setCell]
    · intro k hk
      rw [k4 k hk]
      simp only [World.setCell, Array.getElem?_modify]
      rw [if_neg (by exact fun e => hk e.symm)]

/-- Cells laid over others. -/
def splice (off : Nat) (new old : List SV) : List SV := old.take off ++ new ++ old.drop (off + new.length)

/-- A store. -/
def evStore (P : Program) (G : Nat) (S : St) (t : TypeId) (a v : SV) : Option St :=
  match a with
  | .ptr id off => match find id S.heap with
    | some (.row cs e true ext) =>
      bif Nat.ble G id then
        match (P.info? t).map (·.size) with
        | none => none
        | some n =>
          bif Nat.beq v.cells.length n then
            bif allOne S v.cells then
              bif Nat.ble (off + n) cs.length then some { S with heap := upd id (.row (splice off v.cells cs) e true ext) S.heap } else none
            else none
          else none
      else none
    | _ => none
  | _ => none

theorem evStore_ok (hr : Rel B G w0 E S w) {t : TypeId} {a v : SV} {S' : St} {va vv : Value} (h : evStore P G S t a v = some S') (ha : a.den E = some va) (hv : v.den E = some vv) :
    ∃ w', (Instr.storeAt t va vv).run P w = .ok () w' ∧ Rel B G w0 E S' w' := by
  unfold evStore at h
  split at h
  · rename_i id off
    obtain ⟨b, hb, rfl⟩ := ptr_den ha
    split at h
    · rename_i cs e ext hf
      cases hG : Nat.ble G id with
      | false => rw [hG] at h; cases h
      | true =>
        rw [hG] at h
        simp only [cond_true] at h
        split at h
        · cases h
        · rename_i n hsz
          cases hn : Nat.beq v.cells.length n with
          | false => rw [hn] at h; cases h
          | true =>
            have hn' := Nat.eq_of_beq_eq_true hn
            rw [hn] at h
            simp only [cond_true] at h
            cases h1 : allOne S v.cells with
            | false => rw [h1] at h; cases h
            | true =>
              rw [h1] at h
              simp only [cond_true] at h
              cases hle : Nat.ble (off + n) cs.length with
              | false => rw [hle] at h; cases h
              | true =>
                rw [hle] at h
                simp only [cond_true, Option.some.injEq] at h
                subst h
                have hle := Nat.le_of_ble_eq_true hle
                obtain ⟨l, r, fz, hh, hl, hz, hx, hy⟩ := row_at hr hf hb
                have hlen := denL_length hl
                have hcd := cells_den hr.env hv h1
                have hclen := denL_length hcd
                have hone := allOne_ok hr.env h1 hcd
                have hz := hz rfl
                obtain ⟨w', k1, k2, k3, k4, k5, k6, k7⟩ := stores_run (P := P) (off := off) vv.cells.toList 0 (l ++ r) w hh hz (by simp at hclen ⊢; omega) hone
                refine ⟨w', ?_, ?_⟩
                · simp only [Instr.storeAt, Instr.sureAddr, storeVar, Sem.run_bind, Sem.run_pure, Result.andThen_ok, run_sizeOf' hsz]
                  have : ¬ (vv.cells.size ≠ n) := by simp at hclen; omega
                  simp only [this, if_false]
                  simpa using k1
                · have hsp : (l ++ r).take (off + 0) ++ vv.cells.toList ++ (l ++ r).drop (off + 0 + vv.cells.toList.length) = (l.take off ++ vv.cells.toList ++ l.drop (off + v.cells.length)) ++ r := by
                    rw [Nat.add_zero, hclen, List.take_append_of_le_length (by omega), List.drop_append_of_le_length (by omega)]
                    simp
                  rw [hsp] at k2
                  have hden : SV.denL E (splice off v.cells cs) = some (l.take off ++ vv.cells.toList ++ l.drop (off + v.cells.length)) :=
                    denL_append (denL_append (denL_take off hl) hcd) (denL_drop _ hl)
                  have hsame : ((l.take off ++ vv.cells.toList ++ l.drop (off + v.cells.length)) ++ r).length = (l ++ r).length := by
                    simp at hclen ⊢; omega
                  refine hr.wrote hf hb (Nat.le_of_ble_eq_true hG) k3 k4 k2 ?_ k5 k6 k7
                  cases ext with
                  | none =>
                    have := hx rfl
                    subst this
                    exact ⟨_, fz, hden, by simp, fun _ => by simpa using (by rw [← List.append_nil (_ ++ _ ++ _), hsame]; exact hz : Thawed (l.take off ++ vv.cells.toList ++ l.drop (off + v.cells.length)).length fz)⟩
                  | some p =>
                    obtain ⟨i, u⟩ := p
                    obtain ⟨m, hm, hmu⟩ := hy i u rfl
                    exact ⟨_, r, m, fz, hden, hm, by rw [hsame]; exact hmu, rfl, fun _ => by rw [hsame]; exact hz⟩
    · cases h
  · cases h

/-- A new row. -/
def newRowS (S : St) (e : TypeId) (cs : List SV) : St := { S with heap := (S.next, .row cs e true none) :: S.heap, next := S.next + 1 }

theorem newRow_ok (hr : Rel B G w0 E S w) {e : TypeId} {cs : List SV} {l : List Value} (hl : SV.denL E cs = some l) :
    ∃ F, E.le F ∧ F.ρ S.next = some w.heap.size ∧ Rel B G w0 F (newRowS S e cs) { w with heap := w.heap.push (.cells l.toArray e) } ∧
      (newRow e l.toArray).run P w = .ok ⟨w.heap.size, 0, none⟩ { w with heap := w.heap.push (.cells l.toArray e) } := by
  have hle := E.place_le w.heap.size (hr.newρ S.next (Nat.le_refl _))
  obtain ⟨h1, h2⟩ := hr.pushed (o := .row cs e true none) (x := .cells l.toArray e) (w' := { w with heap := w.heap.push (.cells l.toArray e) }) rfl rfl rfl rfl
    ⟨l, (0, 0), SV.denL_mono hle _ _ hl, rfl, fun _ i _ => by simp⟩
  exact ⟨_, h1, E.place_self _ _, h2, by simp [newRow]⟩
end
end Go.Ev
