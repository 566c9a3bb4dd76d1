/- Loads, stores and new blocks over what is told of memory. -/
import Derived.Test.YtlinfpchnonbpaaGreatDoorEvCode
namespace Go.Ev
open Go.RowKit (Below)
mutual
def SV.conc : SV → Option Value
  | .val v => some v
  | .agg cs => match concL cs with
    | some l => some (.agg l.toArray)
    | none => none
  | .tuple cs => match concL cs with
    | some l => some (.tuple l.toArray)
    | none => none
  | .iface t v => match v.conc with
    | some x => some (.iface t x)
    | none => none
  | .func fn f c => match concL f, concL c with
    | some a, some b => some (.func fn a.toArray b.toArray)
    | _, _ => none
  | _ => none
def concL : List SV → Option (List Value)
  | [] => some []
  | x :: r => match x.conc, concL r with
    | some v, some l => some (v :: l)
    | _, _ => none
end
mutual
theorem conc_den {E : Env} : ∀ (x : SV) (v : Value), x.conc = some v → x.den E = some v
  | .val v, w, h => by simpa only [SV.den, SV.conc] using h
  | .agg cs, w, h => by
    simp only [SV.conc] at h; split at h
    · rename_i l hl; simp only [SV.den, concL_den _ _ hl]; exact h
    · cases h
  | .tuple cs, w, h => by
    simp only [SV.conc] at h; split at h
    · rename_i l hl; simp only [SV.den, concL_den _ _ hl]; exact h
    · cases h
  | .iface t v, w, h => by
    simp only [SV.conc] at h; split at h
    · rename_i l hl; simp only [SV.den, conc_den _ _ hl]; exact h
    · cases h
  | .func fn f c, w, h => by
    simp only [SV.conc] at h; split at h
    · rename_i a b ha hb; simp only [SV.den, concL_den _ _ ha, concL_den _ _ hb]; exact h
    · cases h
  | .sym _, w, h | .ptr _ _, w, h | .slice _ _ _ _, w, h | .map _, w, h => by simp [SV.conc] at h
theorem concL_den {E : Env} : ∀ (x : List SV) (v : List Value), concL x = some v → SV.denL E x = some v
  | [], w, h => by simpa only [SV.denL, concL] using h
  | x :: r, w, h => by
    simp only [concL] at h; split at h
    · rename_i a b ha hb; simp only [SV.denL, conc_den _ _ ha, concL_den _ _ hb]; exact h
    · cases h
end
def allConc (ev : Operand → SV) : List Operand → Bool
  | [] => true
  | x :: r => match (ev x).conc with
    | some _ => allConc ev r
    | none => false
def evc (ev : Operand → SV) (x : Operand) : Value := match (ev x).conc with
  | some v => v
  | none => undef
theorem allConc_mem {ev : Operand → SV} : ∀ {l : List Operand}, allConc ev l = true → ∀ x ∈ l, (ev x).conc = some (evc ev x)
  | [], _, x, hx => by cases hx
  | y :: r, h, x, hx => by
    simp only [allConc] at h
    split at h
    · rename_i v hv
      cases hx with
      | head => simp only [evc, hv]
      | tail _ hx => exact allConc_mem h x hx
    · cases h
def isSelect : Op → Bool
  | .select .. => true
  | _ => false
def opConc (P : Program) (ev : Operand → SV) (o : Oper) : Option SV :=
  bif isSelect o.op then none else
  bif allConc ev o.op.operands.toList then
    match pureRun P (execOp (evc ev) o) with
    | some (.value v) => some (.val v)
    | _ => none
  else none
theorem opConc_ok {P : Program} {ev : Operand → SV} {o : Oper} {sv : SV} (h : opConc P ev o = some sv) {E : Env} {evr : Operand → Value} (he : ∀ x, (ev x).den E = some (evr x)) :
    ∃ v, sv.den E = some v ∧ ∀ w, (execOp evr o).run P w = .ok (.value v) w := by
  unfold opConc at h
  cases hs : isSelect o.op with
  | true => rw [hs] at h; simp at h
  | false =>
    rw [hs] at h
    simp only [cond_false] at h
    cases hc : allConc ev o.op.operands.toList with
    | false => rw [hc] at h; simp at h
    | true =>
      rw [hc] at h
      simp only [cond_true] at h
      split at h
      · rename_i v hv
        simp only [Option.some.injEq] at h; subst h
        refine ⟨v, by simp only [SV.den], fun w => ?_⟩
        have : execOp evr o = execOp (evc ev) o := execOp_congr o (fun cs b e => by rw [e] at hs; simp [isSelect] at hs) fun x hx => by
          have := conc_den (E := E) _ _ (allConc_mem hc x (by simpa using hx))
          rw [he x] at this
          exact Option.some.inj this
        rw [this]
        exact pureRun_run hv w
      · cases h
theorem add_at (b o n : Nat) : (⟨b, o, none⟩ : Addr).add n = ⟨b, o + n, none⟩ := by unfold Addr.add; split <;> simp_all
def norm (S : St) : SV → SV
  | .val (.pointer (some ⟨b, off, none⟩)) => bif isInN b S.gs then .ptr b off else .val (.pointer (some ⟨b, off, none⟩))
  | x => x
section
variable {B G : Nat} {w0 : Start} {E : Env} {S : St} {w : World} {P : Program}
theorem norm_den (h : ERel E S) {x : SV} {v : Value} (hx : x.den E = some v) : (norm S x).den E = some v := by
  unfold norm
  split
  · rename_i b off
    cases hb : isInN b S.gs with
    | true =>
      simp only [cond_true, SV.den, h.glob b hb]
      simpa only [SV.den] using hx
    | false => exact hx
  · exact hx
theorem ptr_den {id off : Nat} {v : Value} (h : (SV.ptr id off).den E = some v) : ∃ b, E.ρ id = some b ∧ v = .pointer (some ⟨b, off, none⟩) := by
  simp only [SV.den] at h
  split at h
  · rename_i b hb; simp only [Option.some.injEq] at h; exact ⟨b, hb, h.symm⟩
  · cases h
theorem slice_den {id off len : Nat} {c : Cap} {v : Value} (h : (SV.slice id off len c).den E = some v) : ∃ b n, E.ρ id = some b ∧ c.den E = some n ∧ v = .slice (some ⟨b, off, none⟩) len n := by
  simp only [SV.den] at h
  split at h
  · rename_i b n hb hn; simp only [Option.some.injEq] at h; exact ⟨b, n, hb, hn, h.symm⟩
  · cases h
theorem agg_den {cs : List SV} {v : Value} (h : (SV.agg cs).den E = some v) : ∃ l, SV.denL E cs = some l ∧ v = .agg l.toArray := by
  simp only [SV.den] at h
  split at h
  · rename_i l hl; simp only [Option.some.injEq] at h; exact ⟨l, hl, h.symm⟩
  · cases h
theorem row_at (h : Rel B G w0 E S w) {id b : Nat} {cs : List SV} {e : TypeId} {wr : Bool} {ext : Option (Nat × Nat)} (hf : find id S.heap = some (.row cs e wr ext)) (hb : E.ρ id = some b) :
    ∃ l r fz, w.heap[b]? = some (.cells (l ++ r).toArray e fz) ∧ SV.denL E cs = some l ∧ (wr = true → Thawed (l ++ r).length fz) ∧
      (ext = none → r = []) ∧ (∀ i u, ext = some (i, u) → ∃ n, E.κ i = some n ∧ (l ++ r).length = n * u) := by
  obtain ⟨b', x, h1, h2, h3⟩ := h.heap id _ hf
  rw [hb] at h1; cases h1
  cases ext with
  | none =>
    obtain ⟨l, fz, k1, rfl, k3⟩ := h3
    exact ⟨l, [], fz, by simpa using h2, k1, fun h => .of (k3 h), fun _ => rfl, fun i u hi => (by cases hi)⟩
  | some p =>
    obtain ⟨i, u⟩ := p
    obtain ⟨l, r, n, fz, k1, k2, k3, rfl, k5⟩ := h3
    exact ⟨l, r, fz, h2, k1, k5, fun hi => (by cases hi), fun i' u' hi => (by cases hi; exact ⟨n, k2, k3⟩)⟩
theorem row_clear (h : Rel B G w0 E S w) {id b : Nat} {cs : List SV} {e : TypeId} (hf : find id S.heap = some (.row cs e true none)) (hb : E.ρ id = some b) {c : Array Value} {e' : TypeId} {fz : Nat × Nat} (hh : w.heap[b]? = some (.cells c e' fz)) : fz = (0, 0) := by
  obtain ⟨b', x, h1, h2, h3⟩ := h.heap id _ hf
  rw [hb] at h1; cases h1
  obtain ⟨l, fz', k1, rfl, k3⟩ := h3
  rw [hh] at h2; cases h2
  exact k3 rfl
theorem cell_at {w : World} {b off : Nat} {c : Array Value} {e : TypeId} {fz : Nat × Nat} (h : w.heap[b]? = some (.cells c e fz)) : w.cell? ⟨b, off, none⟩ = c[off]? := by simp [World.cell?, h]
theorem loads_run {w : World} {b off : Nat} {c : List Value} {e : TypeId} {fz : Nat × Nat} (h : w.heap[b]? = some (.cells c.toArray e fz)) {n : Nat} (hn : off + n ≤ c.length) :
    (loadCells ⟨b, off, none⟩ n).run P w = .ok ((c.drop off).take n).toArray w := by
  have := run_loadCells_list (P := P) w ⟨b, off, none⟩ ((c.drop off).take n) (fun j v hj => by
    rw [add_at, cell_at h]
    have hjn : j < n := by
      rcases Nat.lt_or_ge j n with h' | h'
      · exact h'
      · rw [List.getElem?_take, if_neg (by omega)] at hj; cases hj
    rw [List.getElem?_take_of_lt hjn, List.getElem?_drop] at hj
    simpa using hj)
  rwa [show ((c.drop off).take n).length = n from by simp; omega] at this
def isAggD : TypeDesc → Bool
  | .struct _ | .array _ _ => true
  | _ => false
theorem run_isAgg' {t : TypeId} {d : TypeDesc} (h : P.underlying t = some d) (w : World) : (isAgg t).run P w = .ok (isAggD d) w := by
  simp only [isAgg, Sem.run_bind, run_underlying h, Result.andThen_ok]
  cases d <;> rfl
theorem run_sizeOf' {t : TypeId} {n : Nat} (h : (P.info? t).map (·.size) = some n) (w : World) : (sizeOf t).run P w = .ok n w := by
  cases hi : P.info? t with
  | none => rw [hi] at h; cases h
  | some i =>
    rw [hi] at h
    simp only [Option.map_some, Option.some.injEq] at h
    subst h
    simp [sizeOf, typeInfo, hi]
theorem run_zero' {t : TypeId} {v : Value} (h : (P.info? t).bind (·.zero) = some v) (w : World) : (zeroValue t).run P w = .ok v w := by
  cases hi : P.info? t with
  | none => rw [hi] at h; cases h
  | some i =>
    rw [hi] at h
    simp only [Option.bind_some] at h
    simp [zeroValue, typeInfo, hi, h]
def evLoad (P : Program) (S : St) (t : TypeId) (a : SV) : Option SV :=
  match norm S a with
  | .ptr id off => match find id S.heap with
    | some (.row cs _ _ _) => match P.underlying t with
      | none => none
      | some d => bif isAggD d then
          match (P.info? t).map (·.size) with
          | none => none
          | some n => bif Nat.ble (off + n) cs.length then some (.agg ((cs.drop off).take n)) else none
        else cs[off]?
    | _ => none
  | _ => none
theorem evLoad_ok (hr : Rel B G w0 E S w) {t : TypeId} {a sv : SV} {va : Value} (h : evLoad P S t a = some sv) (ha : a.den E = some va) :
    ∃ v, sv.den E = some v ∧ (Instr.loadAt t va).run P w = .ok v w := by
  have hn := norm_den hr.env ha
  unfold evLoad at h
  split at h
  · rename_i id off hp
    rw [hp] at hn
    obtain ⟨b, hb, rfl⟩ := ptr_den hn
    split at h
    · rename_i cs e wr ext hf
      obtain ⟨l, r, fz, hh, hl, -, -, -⟩ := row_at hr hf hb
      have hlen := denL_length hl
      split at h
      · cases h
      · rename_i d hd
        cases hagg : isAggD d with
        | true =>
          rw [hagg] at h
          simp only [cond_true] at h
          split at h
          · cases h
          · rename_i n hsz
            cases hle : Nat.ble (off + n) cs.length with
            | false => rw [hle] at h; simp at h
            | true =>
              rw [hle] at h
              simp only [cond_true, Option.some.injEq] at h
              subst h
              have hle := Nat.le_of_ble_eq_true hle
              refine ⟨.agg ((l.drop off).take n).toArray, by simp only [SV.den, denL_take n (denL_drop off hl)], ?_⟩
              have hrun := loads_run (P := P) hh (off := off) (n := n) (by simp; omega)
              have : ((l ++ r).drop off).take n = (l.drop off).take n := by
                rw [List.drop_append_of_le_length (by omega), List.take_append_of_le_length (by simp; omega)]
              rw [this] at hrun
              simp only [Instr.loadAt, Instr.sureAddr, loadVar, Sem.run_bind, Sem.run_pure, Result.andThen_ok, run_isAgg' hd, hagg, if_true, run_sizeOf' hsz, hrun]
        | false =>
          rw [hagg] at h
          simp only [cond_false] at h
          obtain ⟨v, hv, hden⟩ := denL_get hl h
          refine ⟨v, hden, ?_⟩
          have hc : w.cell? ⟨b, off, none⟩ = some v := by
            rw [cell_at hh]
            simp only [List.getElem?_toArray]
            rw [List.getElem?_append_left (by
              rcases Nat.lt_or_ge off l.length with h' | h'
              · exact h'
              · simp [List.getElem?_eq_none h'] at hv)]
            exact hv
          simp only [Instr.loadAt, Instr.sureAddr, loadVar, Sem.run_bind, Sem.run_pure, Result.andThen_ok, run_isAgg' hd, hagg, Bool.false_eq_true, if_false, run_load, hc]
    · cases h
  · cases h
def SV.cells : SV → List SV
  | .agg cs => cs
  | .val (.agg cs) => cs.toList.map .val
  | x => [x]
theorem cells_one {v : Value} (h : ∀ cs, v ≠ .agg cs) : v.cells = #[v] := by cases v <;> first | rfl | exact absurd rfl (h _)
def oneS (S : St) : SV → Bool
  | .val v => v.oneCell'
  | .sym n => match find n S.sorts with
    | some .any => false
    | some (.is v) => v.oneCell'
    | some _ => true
    | none => false
  | .agg _ | .tuple _ => false
  | _ => true
theorem oneS_ok (hr : ERel E S) {x : SV} {v : Value} (h : oneS S x = true) (hx : x.den E = some v) : v.oneCell' = true := by
  cases x with
  | val u => simp only [SV.den, Option.some.injEq] at hx; subst hx; exact h
  | sym n =>
    simp only [oneS] at h
    split at h
    · cases h
    · rename_i u0 hs
      obtain ⟨u, hu, hfit⟩ := hr.sorts _ _ hs
      simp only [SV.den] at hx; rw [hu] at hx; cases hx
      have : v = u0 := hfit
      subst this; exact h
    · rename_i s hs hi hne
      obtain ⟨u, hu, hfit⟩ := hr.sorts _ _ hne
      simp only [SV.den] at hx; rw [hu] at hx; cases hx
      cases s with
      | any => exact (hs rfl).elim
      | is v => exact (hi v rfl).elim
      | strNot l => obtain ⟨b, rfl, _⟩ := hfit; rfl
      | intIn k lo hi => obtain ⟨b, rfl, _⟩ := hfit; rfl
      | nan64 => obtain ⟨b, rfl, _⟩ := hfit; rfl
      | cell => exact hfit
      | bool => obtain ⟨b, rfl⟩ := hfit; rfl
      | int k => obtain ⟨b, rfl⟩ := hfit; rfl
      | float k => obtain ⟨b, rfl⟩ := hfit; rfl
      | str => obtain ⟨b, rfl⟩ := hfit; rfl
    · cases h
  | ptr id off => obtain ⟨b, _, rfl⟩ := ptr_den hx; rfl
  | slice id off len c => obtain ⟨b, n, _, _, rfl⟩ := slice_den hx; rfl
  | map id => simp only [SV.den] at hx; split at hx <;> cases hx; rfl
  | func fn f c => simp only [SV.den] at hx; split at hx <;> cases hx; rfl
  | iface t u => simp only [SV.den] at hx; split at hx <;> cases hx; rfl
  | agg cs => cases h
  | tuple cs => cases h
def allOne (S : St) : List SV → Bool
  | [] => true
  | x :: r => bif oneS S x then allOne S r else false
theorem allOne_ok (hr : ERel E S) : ∀ {xs : List SV} {l : List Value}, allOne S xs = true → SV.denL E xs = some l → ∀ v ∈ l, v.oneCell' = true
  | [], l, _, hl, v, hv => by simp only [SV.denL, Option.some.injEq] at hl; subst hl; cases hv
  | x :: r, l, h, hl, v, hv => by
    obtain ⟨u, l', h1, h2, rfl⟩ := denL_cons hl
    simp only [allOne] at h
    cases ho : oneS S x with
    | false => rw [ho] at h; cases h
    | true =>
      rw [ho] at h
      cases hv with
      | head => exact oneS_ok hr ho h1
      | tail _ hv => exact allOne_ok hr h h2 v hv
theorem cells_den (hr : ERel E S) {x : SV} {v : Value} (hx : x.den E = some v) (h1 : allOne S x.cells = true) : SV.denL E x.cells = some v.cells.toList := by
  have single : x.cells = [x] → (∀ cs, v ≠ .agg cs) → SV.denL E x.cells = some v.cells.toList := fun h h' => by
    rw [h, cells_one h']; simpa using denL_mk hx (r := []) rfl
  cases x with
  | agg cs => obtain ⟨l, hl, rfl⟩ := agg_den hx; simpa [SV.cells, Value.cells] using hl
  | val u =>
    simp only [SV.den, Option.some.injEq] at hx; subst hx
    cases u with
    | agg cs => simpa [SV.cells, Value.cells] using denL_vals cs.toList
    | _ => simpa [SV.cells, Value.cells] using denL_vals [_]
  | sym n =>
    refine single rfl fun cs e => ?_
    subst e
    have h2 := h1
    simp only [SV.cells, allOne] at h2
    cases ho : oneS S (.sym n) with
    | false => rw [ho] at h2; cases h2
    | true => have := oneS_ok hr ho hx; simp [Value.oneCell'] at this
  | ptr id off => obtain ⟨b, _, rfl⟩ := ptr_den hx; exact single rfl (fun cs e => by cases e)
  | slice id off len c => obtain ⟨b, n, _, _, rfl⟩ := slice_den hx; exact single rfl (fun cs e => by cases e)
  | map id => simp only [SV.den] at hx; split at hx <;> cases hx; refine single rfl (fun cs e => by cases e)
  | func fn f c => simp only [SV.den] at hx; split at hx <;> cases hx; refine single rfl (fun cs e => by cases e)
  | iface t u => simp only [SV.den] at hx; split at hx <;> cases hx; refine single rfl (fun cs e => by cases e)
  | tuple cs => simp [SV.cells, allOne, oneS] at h1
theorem stores_run {b off : Nat} {e : TypeId} {fz : Nat × Nat} : ∀ (vs : List Value) (i : Nat) (c : List Value) (w : World), w.heap[b]? = some (.cells c.toArray e fz) → Thawed c.length fz →
    off + i + vs.length ≤ c.length → (∀ v ∈ vs, v.oneCell' = true) →
    ∃ w', (storeCells ⟨b, off, none⟩ vs i).run P w = .ok () w' ∧ w'.heap[b]? = some (.cells (c.take (off + i) ++ vs ++ c.drop (off + i + vs.length)).toArray e fz) ∧
      w'.heap.size = w.heap.size ∧ (∀ k, k ≠ b → w'.heap[k]? = w.heap[k]?) ∧ w'.tape = w.tape ∧ w'.os = w.os ∧ w'.output = w.output
  | [], i, c, w, h, _, _, _ => ⟨w, rfl, by simpa using h, rfl, fun _ _ => rfl, rfl, rfl, rfl⟩
  | v :: r, i, c, w, h, hz, hl, h1 => by
    simp only [List.length_cons] at hl
    have hlt : off + i < c.length := by omega
    have hcell : w.cell? ⟨b, off + i, none⟩ = some c[off + i] := by rw [cell_at h]; simp [hlt]
    have hfro : w.frozen? ⟨b, off + i, none⟩ = false := by
      simp only [World.frozen?, h]
      exact hz (off + i) (by omega)
    have hst : (store ((⟨b, off, none⟩ : Addr).add i) v).run P w = .ok () (w.setCell ⟨b, off + i, none⟩ v) := by
      rw [add_at, run_store P w _ v _ (h1 v (by simp)), hcell]
      simp [hfro]
    have hb' : (w.setCell ⟨b, off + i, none⟩ v).heap[b]? = some (.cells (c.set (off + i) v).toArray e fz) := by
      simp only [World.setCell, Array.getElem?_modify, h]
      simp
    obtain ⟨w', k1, k2, k3, k4, k5, k6, k7⟩ := stores_run (off := off) r (i + 1) (c.set (off + i) v) _ hb' (by simpa using hz) (by simp only [List.length_set]; omega) (fun x hx => h1 x (by simp [hx]))
    refine ⟨w', ?_, ?_, ?_, ?_, k5, k6, k7⟩
    · simp only [storeCells, Sem.run_bind, hst, Result.andThen_ok, k1]
    · rw [k2]
      congr 2
      rw [show off + (i + 1) = off + i + 1 by omega, List.drop_set_of_lt (by omega), List.take_set, List.take_succ_eq_append_getElem hlt, List.set_append_right _ _ (by simp; omega)]
      simp only [List.length_take, List.append_assoc, List.length_cons]
      rw [show min (off + i) c.length = off + i by omega, Nat.sub_self, show off + i + 1 + r.length = off + i + (r.length + 1) by omega]
      rfl
    · rw [k3]; simp [World.setCell]
    · intro k hk
      rw [k4 k hk]
      simp only [World.setCell, Array.getElem?_modify]
      rw [if_neg (by exact fun e => hk e.symm)]
def splice (off : Nat) (new old : List SV) : List SV := old.take off ++ new ++ old.drop (off + new.length)
def evStore (P : Program) (G : Nat) (S : St) (t : TypeId) (a v : SV) : Option St :=
  match a with
  | .ptr id off => match find id S.heap with
    | some (.row cs e true ext) =>
      bif Nat.ble G id then
        match (P.info? t).map (·.size) with
        | none => none
        | some n =>
          bif Nat.beq v.cells.length n then
            bif allOne S v.cells then
              bif Nat.ble (off + n) cs.length then some { S with heap := upd id (.row (splice off v.cells cs) e true ext) S.heap } else none
            else none
          else none
      else none
    | _ => none
  | _ => none
theorem evStore_ok (hr : Rel B G w0 E S w) {t : TypeId} {a v : SV} {S' : St} {va vv : Value} (h : evStore P G S t a v = some S') (ha : a.den E = some va) (hv : v.den E = some vv) :
    ∃ w', (Instr.storeAt t va vv).run P w = .ok () w' ∧ Rel B G w0 E S' w' := by
  unfold evStore at h
  split at h
  · rename_i id off
    obtain ⟨b, hb, rfl⟩ := ptr_den ha
    split at h
    · rename_i cs e ext hf
      cases hG : Nat.ble G id with
      | false => rw [hG] at h; cases h
      | true =>
        rw [hG] at h
        simp only [cond_true] at h
        split at h
        · cases h
        · rename_i n hsz
          cases hn : Nat.beq v.cells.length n with
          | false => rw [hn] at h; cases h
          | true =>
            have hn' := Nat.eq_of_beq_eq_true hn
            rw [hn] at h
            simp only [cond_true] at h
            cases h1 : allOne S v.cells with
            | false => rw [h1] at h; cases h
            | true =>
              rw [h1] at h
              simp only [cond_true] at h
              cases hle : Nat.ble (off + n) cs.length with
              | false => rw [hle] at h; cases h
              | true =>
                rw [hle] at h
                simp only [cond_true, Option.some.injEq] at h
                subst h
                have hle := Nat.le_of_ble_eq_true hle
                obtain ⟨l, r, fz, hh, hl, hz, hx, hy⟩ := row_at hr hf hb
                have hlen := denL_length hl
                have hcd := cells_den hr.env hv h1
                have hclen := denL_length hcd
                have hone := allOne_ok hr.env h1 hcd
                have hz := hz rfl
                obtain ⟨w', k1, k2, k3, k4, k5, k6, k7⟩ := stores_run (P := P) (off := off) vv.cells.toList 0 (l ++ r) w hh hz (by simp at hclen ⊢; omega) hone
                refine ⟨w', ?_, ?_⟩
                · simp only [Instr.storeAt, Instr.sureAddr, storeVar, Sem.run_bind, Sem.run_pure, Result.andThen_ok, run_sizeOf' hsz]
                  have : ¬ (vv.cells.size ≠ n) := by simp at hclen; omega
                  simp only [this, if_false]
                  simpa using k1
                · have hsp : (l ++ r).take (off + 0) ++ vv.cells.toList ++ (l ++ r).drop (off + 0 + vv.cells.toList.length) = (l.take off ++ vv.cells.toList ++ l.drop (off + v.cells.length)) ++ r := by
                    rw [Nat.add_zero, hclen, List.take_append_of_le_length (by omega), List.drop_append_of_le_length (by omega)]
                    simp
                  rw [hsp] at k2
                  have hden : SV.denL E (splice off v.cells cs) = some (l.take off ++ vv.cells.toList ++ l.drop (off + v.cells.length)) :=
                    denL_append (denL_append (denL_take off hl) hcd) (denL_drop _ hl)
                  have hsame : ((l.take off ++ vv.cells.toList ++ l.drop (off + v.cells.length)) ++ r).length = (l ++ r).length := by
                    simp at hclen ⊢; omega
                  refine hr.wrote hf hb (Nat.le_of_ble_eq_true hG) k3 k4 k2 ?_ k5 k6 k7
                  cases ext with
                  | none =>
                    have := hx rfl
                    subst this
                    exact ⟨_, fz, hden, by simp, fun _ => row_clear hr hf hb hh⟩
                  | some p =>
                    obtain ⟨i, u⟩ := p
                    obtain ⟨m, hm, hmu⟩ := hy i u rfl
                    exact ⟨_, r, m, fz, hden, hm, by rw [hsame]; exact hmu, rfl, fun _ => by rw [hsame]; exact hz⟩
    · cases h
  · cases h
def newRowS (S : St) (e : TypeId) (cs : List SV) : St := { S with heap := (S.next, .row cs e true none) :: S.heap, next := S.next + 1 }
theorem newRow_ok (hr : Rel B G w0 E S w) {e : TypeId} {cs : List SV} {l : List Value} (hl : SV.denL E cs = some l) :
    ∃ F, E.le F ∧ F.ρ S.next = some w.heap.size ∧ Rel B G w0 F (newRowS S e cs) { w with heap := w.heap.push (.cells l.toArray e) } ∧
      (newRow e l.toArray).run P w = .ok ⟨w.heap.size, 0, none⟩ { w with heap := w.heap.push (.cells l.toArray e) } := by
  have hle := E.place_le w.heap.size (hr.newρ S.next (Nat.le_refl _))
  obtain ⟨h1, h2⟩ := hr.pushed (o := .row cs e true none) (x := .cells l.toArray e) (w' := { w with heap := w.heap.push (.cells l.toArray e) }) rfl rfl rfl rfl
    ⟨l, (0, 0), SV.denL_mono hle _ _ hl, rfl, fun _ => rfl⟩
  exact ⟨_, h1, E.place_self _ _, h2, by simp [newRow]⟩
end
end Go.Ev
namespace Go.Ev
def kv (kn : List (Nat × Value)) : Operand → SV
  | .tmp t => match find t kn with
    | some v => .val v
    | none => .sym 0
  | .const v => .val v
  | _ => .sym 0
def isRecover (o : Oper) : Bool :=
  match o.op with
  | .call c => match c.callee with
    | .builtin .recover => c.args.isEmpty
    | _ => false
  | _ => false
def putK (nt : Nat) (dst : Option Tmp) (v : Value) (kn : List (Nat × Value)) : Option (List (Nat × Value)) :=
  match dst with
  | some d => bif Nat.blt d nt then some ((d, v) :: kn) else none
  | none => some kn
def qOps (P : Program) (nt : Nat) (ops : Array Oper) : List Nat → List (Nat × Value) → Option (List (Nat × Value))
  | [], kn => some kn
  | i :: r, kn => match ops[i]? with
    | none => qOps P nt ops r kn
    | some o => match o.guard with
      | some _ => none
      | none => match (bif isRecover o then some (.val .nilIface) else match o.op with
          | .assign x | .move x => (match kv kn x with
            | .val v => some (.val v)
            | _ => none)
          | _ => opConc P (kv kn) o) with
        | some (.val v) => match putK nt o.dst v kn with
          | some kn' => qOps P nt ops r kn'
          | none => none
        | _ => none
def qCode (P : Program) (nt : Nat) : Code → List (Nat × Value) → Option (List (Nat × Value))
  | .skip, kn => some kn
  | .region _ ops false, kn => qOps P nt ops (List.range ops.size) kn
  | .seq a b, kn => match qCode P nt a kn with
    | some kn' => qCode P nt b kn'
    | none => none
  | .cond c x y, kn => match kv kn c with
    | .val (.bool true) => qCode P nt x kn
    | .val (.bool false) => qCode P nt y kn
    | _ => none
  | _, _ => none
def quietD (P : Program) (f : Nat) : Bool := match P.funcs[f]? with
  | some fn => match fn.body with
    | some c => !(fn.name == "runtime.NumGoroutine") && (fn.results.toList.isEmpty && (match qCode P fn.ntmps c [] with
      | some _ => true
      | none => false))
    | none => false
  | none => false
structure KRel (nt : Nat) (kn : List (Nat × Value)) (a : Act) : Prop where
  size : nt ≤ a.tmps.size
  has : ∀ t v, find t kn = some v → a.tmps.getD t undef = v
  defers : a.defers = []
section
variable {P : Program} {nt : Nat}
theorem kv_ok {kn : List (Nat × Value)} {a : Act} (h : KRel nt kn a) {x : Operand} {v : Value} (hx : kv kn x = .val v) : a.eval x = v := by
  cases x with
  | tmp t =>
    simp only [kv] at hx
    split at hx
    · rename_i u hu; simp only [SV.val.injEq] at hx; subst hx; exact h.has _ _ hu
    · cases hx
  | const u => simp only [kv, SV.val.injEq] at hx; exact hx
  | global g => cases hx
  | func f => cases hx
theorem kv_conc {kn : List (Nat × Value)} {a : Act} (h : KRel nt kn a) {x : Operand} {v : Value} (hx : (kv kn x).conc = some v) : a.eval x = v := by
  cases e : kv kn x with
  | val u => rw [e] at hx; simp only [SV.conc, Option.some.injEq] at hx; subst hx; exact kv_ok h e
  | sym n => rw [e] at hx; cases hx
  | _ => cases x <;> simp only [kv] at e <;> (try split at e) <;> cases e
theorem putK_ok {kn kn' : List (Nat × Value)} {a : Act} (h : KRel nt kn a) {dst : Option Tmp} {v : Value} (hp : putK nt dst v kn = some kn') : KRel nt kn' (a.put dst v) := by
  unfold putK at hp
  split at hp
  · rename_i d
    cases e : Nat.blt d nt with
    | false => rw [e] at hp; cases hp
    | true =>
      rw [e] at hp
      simp only [cond_true, Option.some.injEq] at hp; subst hp
      have hd : d < nt := Nat.le_of_ble_eq_true e
      have hs := h.size
      refine ⟨by simpa [Act.put] using h.size, fun t u ht => ?_, by rw [put_defers]; exact h.defers⟩
      by_cases htd : t = d
      · subst htd
        rw [find_cons_self] at ht; cases ht
        simp [Act.put, Array.getD_eq_getD_getElem?, Nat.lt_of_lt_of_le hd hs]
      · rw [find_cons_ne htd] at ht
        have := h.has t u ht
        rw [← this]
        simp [Act.put, Array.getD_eq_getD_getElem?, Array.getElem?_setIfInBounds_ne (Ne.symm htd)]
  · simp only [Option.some.injEq] at hp; subst hp; exact h
theorem opConc_known {kn : List (Nat × Value)} {a : Act} (hk : KRel nt kn a) {o : Oper} {sv : SV} (h : opConc P (kv kn) o = some sv) :
    ∃ v, sv = .val v ∧ ∀ w, (execOp a.eval o).run P w = .ok (.value v) w := by
  unfold opConc at h
  cases hs : isSelect o.op with
  | true => rw [hs] at h; simp at h
  | false =>
    rw [hs] at h
    simp only [cond_false] at h
    cases hc : allConc (kv kn) o.op.operands.toList with
    | false => rw [hc] at h; simp at h
    | true =>
      rw [hc] at h
      simp only [cond_true] at h
      split at h
      · rename_i v hv
        simp only [Option.some.injEq] at h; subst h
        refine ⟨v, rfl, fun w => ?_⟩
        have : execOp a.eval o = execOp (evc (kv kn)) o := execOp_congr o (fun cs b e => by rw [e] at hs; simp [isSelect] at hs) fun x hx =>
          kv_conc hk (allConc_mem hc x (by simpa using hx))
        rw [this]
        exact pureRun_run hv w
      · cases h
theorem qOps_ok {ops : Array Oper} {cs : List Frame} (hrec : recoverD cs = none) {w : World} {Q : Exit → Act → List Frame → World → Prop} : ∀ (l : List Nat) (kn kn' : List (Nat × Value)) (a : Act),
    qOps P nt ops l kn = some kn' → KRel nt kn a → (∀ a', KRel nt kn' a' → Q .normal a' cs w) → wpOpsS P ops Q l a cs w
  | [], kn, kn', a, h, hk, hQ => by
    simp only [qOps, Option.some.injEq] at h; subst h
    exact hQ a hk
  | i :: r, kn, kn', a, h, hk, hQ => by
    simp only [qOps] at h
    simp only [wpOpsS]
    split at h
    · rename_i hi
      simp only [hi]
      exact qOps_ok hrec r kn kn' a h hk hQ
    · rename_i o hi
      simp only [hi]
      split at h
      · cases h
      · rename_i hg
        have hw : Region.wanted o (yielded ops a.tmps) = true := by simp [Region.wanted, hg]
        simp only [hw, if_true]
        split at h
        · rename_i v hv
          split at h
          · rename_i kn₂ hp
            have hk₂ := putK_ok hk hp
            cases hr : isRecover o with
            | true =>
              rw [hr] at hv
              simp only [cond_true, Option.some.injEq, SV.val.injEq] at hv
              subst hv
              have : (execOp a.eval o).run P w = .ok .recover w := by
                unfold isRecover at hr
                split at hr
                · rename_i c ho
                  split at hr
                  · rename_i hb
                    have : c.args = #[] := by simpa using hr
                    simp [execOp, ho, resolve, hb, this, invoke, builtin]
                  · cases hr
                · cases hr
              simp only [this, hrec]
              exact qOps_ok hrec r kn₂ kn' _ h hk₂ hQ
            | false =>
              rw [hr] at hv
              simp only [cond_false] at hv
              have key : (execOp a.eval o).run P w = .ok (.value v) w := by
                split at hv
                · rename_i x ho
                  split at hv
                  · rename_i u hu
                    simp only [Option.some.injEq, SV.val.injEq] at hv; subst hv
                    simp [execOp, ho, kv_ok hk hu]
                  · cases hv
                · rename_i x ho
                  split at hv
                  · rename_i u hu
                    simp only [Option.some.injEq, SV.val.injEq] at hv; subst hv
                    simp [execOp, ho, kv_ok hk hu]
                  · cases hv
                · obtain ⟨u, hu, hrun⟩ := opConc_known hk hv
                  simp only [SV.val.injEq] at hu; subst hu
                  exact hrun w
              simp only [key]
              exact qOps_ok hrec r kn₂ kn' _ h hk₂ hQ
          · cases h
        · cases h
theorem qCode_ok {cs : List Frame} (hrec : recoverD cs = none) {w : World} : ∀ (c : Code) (kn kn' : List (Nat × Value)) (a : Act) (Q : Exit → Act → List Frame → World → Prop),
    qCode P nt c kn = some kn' → KRel nt kn a → (∀ a', KRel nt kn' a' → Q .normal a' cs w) → c.wpS P Q a cs w := by
  intro c
  induction c with
  | skip =>
    intro kn kn' a Q h hk hQ
    simp only [qCode, Option.some.injEq] at h; subst h
    exact wpS_of_wp (wp_skip (hQ a hk))
  | region id ops d =>
    intro kn kn' a Q h hk hQ
    cases d with
    | true => cases h
    | false => exact wpS_region (qOps_ok hrec _ kn kn' a h hk hQ)
  | seq x y ihx ihy =>
    intro kn kn' a Q h hk hQ
    simp only [qCode] at h
    split at h
    · rename_i kn₂ h₂
      exact wpS_seq (ihx kn kn₂ a _ h₂ hk fun a' hk' => ihy kn₂ kn' a' Q h hk' hQ)
    · cases h
  | cond c x y ihx ihy =>
    intro kn kn' a Q h hk hQ
    simp only [qCode] at h
    split at h
    · rename_i hc; exact wpS_cond (kv_ok hk hc) (ihx kn kn' a Q h hk hQ)
    · rename_i hc; exact wpS_cond (kv_ok hk hc) (ihy kn kn' a Q h hk hQ)
    · cases h
  | _ => intro kn kn' a Q h; cases h
theorem quietD_ok {f : Nat} (h : quietD P f = true) : QuietD P f := by
  unfold quietD at h
  split at h
  · rename_i fn hf
    split at h
    · rename_i c hc
      simp only [Bool.and_eq_true] at h
      obtain ⟨hn, hr, hq⟩ := h
      have hn : ¬ fn.name = "runtime.NumGoroutine" := by simpa using hn
      split at hq
      · rename_i kn hkn
        refine ⟨fun args w => by simp [callFunc, hf, hc, hn], fun args w => callsD_of_wpS hf hc fun c₀ cs hm => ?_⟩
        refine qCode_ok (P := P) (nt := fn.ntmps) (cs := c₀ :: cs) (by simp [recoverD, hm]) c [] kn _ _ hkn ⟨by simp only [Array.size_append, Array.size_replicate]; omega, (fun t v h => by cases h), rfl⟩ fun a' hk => ?_
        refine ⟨hk.defers, .returning, by rw [← hm], .tuple #[], ?_, ⟨_, rfl⟩, rfl, rfl⟩
        have : fn.results = #[] := by simpa using hr
        simp [results, this]
      · cases hq
    · cases h
  · cases h
end
end Go.Ev
namespace Go.Ev
open Go.RowKit (Below)
def Does (B G : Nat) (w0 : Start) (P : Program) (E : Env) (sv : SV) (S' : St) (m : Sem Value) (w : World) : Prop :=
  ∃ (F : Env) (v : Value) (w' : World), E.le F ∧ Rel B G w0 F S' w' ∧ sv.den F = some v ∧ m.run P w = .ok v w'
section
variable {B G : Nat} {w0 : Start} {E : Env} {S : St} {w : World} {P : Program}
def Quiet (P : Program) (E : Env) (sv : SV) (m : Sem Value) : Prop := ∃ v : Value, sv.den E = some v ∧ ∀ w : World, m.run P w = .ok v w
theorem Quiet.does {sv : SV} {m : Sem Value} (h : Quiet P E sv m) (hr : Rel B G w0 E S w) : Does B G w0 P E sv S m w :=
  let ⟨v, h1, h2⟩ := h; ⟨E, v, w, E.le_refl, hr, h1, h2 w⟩
theorem Quiet.mk {sv : SV} {m : Sem Value} {v : Value} (hv : sv.den E = some v) (hm : ∀ w : World, m.run P w = .ok v w) : Quiet P E sv m := ⟨v, hv, hm⟩
theorem Does.here (hr : Rel B G w0 E S w) {sv : SV} {v : Value} {m : Sem Value} (hv : sv.den E = some v) (hm : m.run P w = .ok v w) : Does B G w0 P E sv S m w :=
  ⟨E, v, w, E.le_refl, hr, hv, hm⟩
def evFieldAddr (P : Program) (S : St) (t : TypeId) (a : SV) (f : Nat) : Option SV :=
  match norm S a with
  | .ptr id off => match P.underlying t with
    | some (.struct fields) => match fields[f]? with
      | some fd => match (P.info? fd.type).map (·.size) with
        | some (_ + 1) => some (.ptr id (off + fd.offset))
        | _ => none
      | none => none
    | _ => none
  | _ => none
theorem evFieldAddr_ok (hr : ERel E S) {t : TypeId} {a sv : SV} {f : Nat} {va : Value} (h : evFieldAddr P S t a f = some sv) (ha : a.den E = some va) :
    Quiet P E sv (Instr.fieldAt t va f) := by
  have hn := norm_den hr ha
  unfold evFieldAddr at h
  split at h
  · rename_i id off hp
    rw [hp] at hn
    obtain ⟨b, hb, rfl⟩ := ptr_den hn
    split at h
    · rename_i fields hu
      split at h
      · rename_i fd hfd
        split at h
        · rename_i n hsz
          simp only [Option.some.injEq] at h; subst h
          refine .mk (v := .pointer (some ⟨b, off + fd.offset, none⟩)) (by simp only [SV.den, hb]) fun w => ?_
          simp only [Instr.fieldAt, Sem.run_bind, run_underlying hu, Result.andThen_ok, hfd, Instr.sureAddr, Sem.run_pure, fieldPlace, run_sizeOf' hsz]
          simp [add_at]
        · cases h
      · cases h
    · cases h
  · cases h
def natOf : SV → Option Nat
  | .val (.int _ (.ofNat n)) => some n
  | _ => none
theorem natOf_ok {x : SV} {n : Nat} {v : Value} (h : natOf x = some n) (hx : x.den E = some v) : ∃ k, v = .int k (n : Int) := by
  unfold natOf at h
  split at h
  · rename_i k m
    simp only [Option.some.injEq] at h; subst h
    simp only [SV.den, Option.some.injEq] at hx
    exact ⟨k, hx.symm⟩
  · cases h
def evIndexAddr (P : Program) (S : St) (t : TypeId) (x i : SV) : Option SV :=
  match natOf i, P.underlying t with
  | some n, some (.slice e) => match x, (P.info? e).map (·.size) with
    | .slice id off len _, some sz => bif Nat.blt n len then some (.ptr id (off + n * sz)) else none
    | _, _ => none
  | some n, some (.array len e) => match norm S x, (P.info? e).map (·.size) with
    | .ptr id off, some sz => bif Nat.blt n len then some (.ptr id (off + n * sz)) else none
    | _, _ => none
  | _, _ => none
theorem evIndexAddr_ok (hr : ERel E S) {t : TypeId} {x i sv : SV} {vx vi : Value} (h : evIndexAddr P S t x i = some sv) (hx : x.den E = some vx) (hi : i.den E = some vi) :
    Quiet P E sv (Instr.indexAt t vx vi) := by
  unfold evIndexAddr at h
  split at h
  · rename_i n e hn hu
    obtain ⟨k, rfl⟩ := natOf_ok hn hi
    split at h
    · rename_i id off len c sz hsz
      cases hlt : Nat.blt n len with
      | false => rw [hlt] at h; cases h
      | true =>
        have hlt' : n < len := Nat.le_of_ble_eq_true hlt
        rw [hlt] at h
        simp only [cond_true, Option.some.injEq] at h; subst h
        obtain ⟨b, m, hb, -, rfl⟩ := slice_den hx
        refine .mk (v := .pointer (some ⟨b, off + n * sz, none⟩)) (by simp only [SV.den, hb]) fun w => ?_
        simp only [Instr.indexAt, asIntOf, Sem.run_bind, Sem.run_pure, Result.andThen_ok, run_underlying hu]
        have h1 : (0 : Int) ≤ (n : Int) ∧ (n : Int) < (len : Int) := ⟨by omega, by omega⟩
        simp [h1, run_sizeOf' hsz, add_at]
    · cases h
  · rename_i n len e hn hu
    obtain ⟨k, rfl⟩ := natOf_ok hn hi
    split at h
    · rename_i id off sz hp hsz
      cases hlt : Nat.blt n len with
      | false => rw [hlt] at h; cases h
      | true =>
        have hlt' : n < len := Nat.le_of_ble_eq_true hlt
        rw [hlt] at h
        simp only [cond_true, Option.some.injEq] at h; subst h
        have hnx := norm_den hr hx
        rw [hp] at hnx
        obtain ⟨b, hb, rfl⟩ := ptr_den hnx
        refine .mk (v := .pointer (some ⟨b, off + n * sz, none⟩)) (by simp only [SV.den, hb]) fun w => ?_
        simp only [Instr.indexAt, asIntOf, Sem.run_bind, Sem.run_pure, Result.andThen_ok, run_underlying hu, Instr.sureAddr]
        have h1 : (0 : Int) ≤ (n : Int) ∧ (n : Int) < (len : Int) := ⟨by omega, by omega⟩
        simp [h1, run_sizeOf' hsz, add_at]
    · cases h
  · cases h
def evAlloc (P : Program) (S : St) (e : TypeId) : Option (SV × St) :=
  match (P.info? e).bind (·.zero) with
  | some z => some (.ptr S.next 0, newRowS S e (z.cells.toList.map .val))
  | none => none
theorem evAlloc_ok (hr : Rel B G w0 E S w) {e : TypeId} {sv : SV} {S' : St} (h : evAlloc P S e = some (sv, S')) : Does B G w0 P E sv S' (Instr.alloc e true (.tuple #[])) w := by
  unfold evAlloc at h
  split at h
  · rename_i z hz
    simp only [Option.some.injEq, Prod.mk.injEq] at h
    obtain ⟨rfl, rfl⟩ := h
    obtain ⟨F, h1, h2, h3, h4⟩ := newRow_ok (P := P) hr (e := e) (denL_vals z.cells.toList)
    refine ⟨F, .pointer (some ⟨w.heap.size, 0, none⟩), _, h1, h3, by simp only [SV.den, h2], ?_⟩
    simp only [Instr.alloc, Sem.run_bind, run_zero' hz, Result.andThen_ok, newVar]
    simp only [Array.toArray_toList] at h4
    simp [h4]
  · cases h
def evBox (S : St) (e : TypeId) (x : SV) : Option (SV × St) :=
  bif allOne S x.cells then some (.ptr S.next 0, newRowS S e x.cells) else none
theorem evBox_ok (hr : Rel B G w0 E S w) {e : TypeId} {x sv : SV} {S' : St} {vx : Value} (h : evBox S e x = some (sv, S')) (hx : x.den E = some vx) : Does B G w0 P E sv S' (Instr.box e vx) w := by
  unfold evBox at h
  cases h1 : allOne S x.cells with
  | false => rw [h1] at h; cases h
  | true =>
    rw [h1] at h
    simp only [cond_true, Option.some.injEq, Prod.mk.injEq] at h
    obtain ⟨rfl, rfl⟩ := h
    obtain ⟨F, g1, g2, g3, g4⟩ := newRow_ok (P := P) hr (e := e) (cells_den hr.env hx h1)
    refine ⟨F, .pointer (some ⟨w.heap.size, 0, none⟩), _, g1, g3, by simp only [SV.den, g2], ?_⟩
    simp only [Array.toArray_toList] at g4
    simp [Instr.box, newVar, g4]
def fillS (S : St) (place : Nat → Option (Nat × Nat)) (cells : List SV) : List (Nat × SV) → Option (List SV)
  | [] => some cells
  | (i, x) :: r => match place i with
    | none => none
    | some (off, size) =>
      bif allOne S x.cells && (Nat.beq x.cells.length size && Nat.ble (off + size) cells.length) then fillS S place (splice off x.cells cells) r else none
theorem setAll (off : Nat) : ∀ (l : List Value) (k : Nat) (arr : List Value), off + k + l.length ≤ arr.length →
    ((l.zipIdx k).foldl (fun (cs : Array Value) (p : Value × Nat) => cs.setIfInBounds (off + p.2) p.1) arr.toArray).toList = arr.take (off + k) ++ l ++ arr.drop (off + k + l.length)
  | [], k, arr, _ => by simp
  | v :: r, k, arr, h => by
    simp only [List.length_cons] at h
    simp only [List.zipIdx_cons, List.foldl_cons, List.setIfInBounds_toArray]
    rw [setAll off r (k + 1) (arr.set (off + k) v) (by simp only [List.length_set]; omega)]
    rw [show off + (k + 1) = off + k + 1 by omega, List.drop_set_of_lt (by omega), List.take_set, List.take_succ_eq_append_getElem (by omega), List.set_append_right _ _ (by simp; omega)]
    simp only [List.length_take, List.append_assoc, List.length_cons]
    rw [show min (off + k) arr.length = off + k by omega, Nat.sub_self, show off + k + 1 + r.length = off + k + (r.length + 1) by omega]
    rfl
theorem fillS_ok (hr : ERel E S) {place : Nat → Option (Nat × Nat)} : ∀ (parts : List (Nat × SV)) (cells out : List SV) (vparts : List (Nat × Value)) (l : List Value),
    fillS S place cells parts = some out → SV.denL E cells = some l → vparts.map (·.1) = parts.map (·.1) → SV.denL E (parts.map (·.2)) = some (vparts.map (·.2)) →
    ∃ l', SV.denL E out = some l' ∧ Instr.fill place l.toArray vparts = some l'.toArray
  | [], cells, out, vparts, l, h, hl, hm, _ => by
    simp only [fillS, Option.some.injEq] at h; subst h
    have : vparts = [] := by simpa using hm
    subst this
    exact ⟨l, hl, rfl⟩
  | (i, x) :: r, cells, out, vparts, l, h, hl, hm, hd => by
    cases vparts with
    | nil => simp at hm
    | cons vp vr =>
      obtain ⟨j, u⟩ := vp
      simp only [List.map_cons, List.cons.injEq] at hm
      obtain ⟨rfl, hm⟩ := hm
      simp only [List.map_cons] at hd
      obtain ⟨u', l', hu, hd', he⟩ := denL_cons hd
      simp only [List.cons.injEq] at he
      obtain ⟨rfl, rfl⟩ := he
      simp only [fillS] at h
      simp only [Instr.fill]
      split at h
      · cases h
      · rename_i off size hp
        cases hc : allOne S x.cells && (Nat.beq x.cells.length size && Nat.ble (off + size) cells.length) with
        | false => rw [hc] at h; cases h
        | true =>
          rw [hc] at h
          simp only [cond_true] at h
          simp only [Bool.and_eq_true] at hc
          obtain ⟨h1, h2, h3⟩ := hc
          have h2 := Nat.eq_of_beq_eq_true h2
          have h3 := Nat.le_of_ble_eq_true h3
          have hcd := cells_den hr hu h1
          have hlen := denL_length hcd
          have hlen' := denL_length hl
          have hsz : u.cells.size = size := by simp at hlen; omega
          have hsp : SV.denL E (splice off x.cells cells) = some (l.take off ++ u.cells.toList ++ l.drop (off + x.cells.length)) :=
            denL_append (denL_append (denL_take off hl) hcd) (denL_drop _ hl)
          obtain ⟨l'', k1, k2⟩ := fillS_ok hr r _ out vr _ h hsp hm hd'
          refine ⟨l'', k1, ?_⟩
          have hcond : ¬ (u.cells.size ≠ size || off + u.cells.size > l.toArray.size) = true := by
            simp [hsz]; omega
          simp only [hp]
          rw [if_neg hcond]
          have := setAll off u.cells.toList 0 l (by simp; omega)
          simp only [Nat.add_zero] at this
          rw [← k2]
          congr 1
          rw [← Array.foldl_toList]
          apply Array.ext'
          simp only [Array.toList_zipIdx]
          rw [this, hlen]
def placesS (P : Program) : List Field → Option (List (Nat × Nat))
  | [] => some []
  | f :: r => match (P.info? f.type).map (·.size), placesS P r with
    | some n, some l => some ((f.offset, n) :: l)
    | _, _ => none
theorem placesS_run : ∀ {fs : List Field} {l : List (Nat × Nat)}, placesS P fs = some l → ∀ w : World, ((fs.mapM fun f => do pure (f.offset, ← sizeOf f.type)) : Sem (List (Nat × Nat))).run P w = .ok l w
  | [], l, h, w => by simp only [placesS, Option.some.injEq] at h; subst h; rfl
  | f :: r, l, h, w => by
    simp only [placesS] at h
    split at h
    · rename_i n l' hn hl
      simp only [Option.some.injEq] at h; subst h
      simp only [List.mapM_cons, Sem.run_bind, run_sizeOf' hn, Result.andThen_ok, Sem.run_pure, placesS_run hl]
    · cases h
def evBuild (P : Program) (S : St) (t : TypeId) (parts : List (Nat × SV)) : Option SV :=
  match (P.info? t).bind (·.zero), P.underlying t with
  | some z, some (.struct fields) => match placesS P fields.toList with
    | some pl => match fillS S (pl[·]?) (z.cells.toList.map .val) parts with
      | some cs => some (.agg cs)
      | none => none
    | none => none
  | some z, some (.array _ e) => match (P.info? e).map (·.size) with
    | some n => match fillS S (fun i => some (i * n, n)) (z.cells.toList.map .val) parts with
      | some cs => some (.agg cs)
      | none => none
    | none => none
  | _, _ => none
theorem evBuild_ok (hr : ERel E S) {t : TypeId} {parts : List (Nat × SV)} {sv : SV} (h : evBuild P S t parts = some sv) {vparts : Array (Nat × Value)}
    (hm : vparts.toList.map (·.1) = parts.map (·.1)) (hd : SV.denL E (parts.map (·.2)) = some (vparts.toList.map (·.2))) : Quiet P E sv (Instr.build t vparts) := by
  unfold evBuild at h
  split at h
  · rename_i z fields hz hu
    split at h
    · rename_i pl hpl
      split at h
      · rename_i cs hcs
        simp only [Option.some.injEq] at h; subst h
        obtain ⟨l', k1, k2⟩ := fillS_ok hr parts _ cs vparts.toList _ hcs (denL_vals z.cells.toList) hm hd
        refine .mk (v := .agg l'.toArray) (by simp only [SV.den, k1]) fun w => ?_
        have hrun := placesS_run (P := P) hpl w
        have hmap : ((fields.mapM fun f => do pure (f.offset, ← sizeOf f.type)) : Sem (Array (Nat × Nat))).run P w = .ok pl.toArray w := by
          rw [← Array.toArray_toList (xs := fields), List.mapM_toArray, Sem.run_map, hrun]; rfl
        simp only [Instr.build, Sem.run_bind, run_zero' hz, run_underlying hu, Result.andThen_ok, hmap]
        simp only [List.getElem?_toArray]
        simp only [Array.toArray_toList] at k2
        simp only [k2]
        rfl
      · cases h
    · cases h
  · rename_i z n e hz hu
    split at h
    · rename_i sz hsz
      split at h
      · rename_i cs hcs
        simp only [Option.some.injEq] at h; subst h
        obtain ⟨l', k1, k2⟩ := fillS_ok hr parts _ cs vparts.toList _ hcs (denL_vals z.cells.toList) hm hd
        refine .mk (v := .agg l'.toArray) (by simp only [SV.den, k1]) fun w => ?_
        simp only [Instr.build, Sem.run_bind, run_zero' hz, run_underlying hu, Result.andThen_ok, run_sizeOf' hsz]
        simp only [Array.toArray_toList] at k2
        simp only [k2]
        rfl
      · cases h
    · cases h
  · cases h
def zerosOf (z : List Value) (n : Nat) : List SV := (List.range n).map fun i => .val (z.getD (i % z.length) default)
theorem zerosOf_den (z : Array Value) (n : Nat) : SV.denL E (zerosOf z.toList n) = some ((Array.range n).map (fun i => z[i % z.size]!)).toList := by
  have : zerosOf z.toList n = ((List.range n).map fun i => z.toList.getD (i % z.toList.length) default).map .val := by simp [zerosOf]
  rw [this, denL_vals]
  simp only [Array.toList_map, Array.toList_range, Array.length_toList, Option.some.injEq]
  refine List.map_congr_left fun i _ => ?_
  simp [List.getD, getElem!_def]
  cases z[i % z.size]? <;> rfl
def evBuildSlice (P : Program) (S : St) (t : TypeId) (len : Nat) (parts : List (Nat × SV)) : Option (SV × St) :=
  match P.underlying t with
  | some (.slice e) => match P.info? e with
    | some inf => match inf.zero with
      | some z =>
        bif Nat.ble (len * inf.size) 16777216 then
          match fillS S (fun i => some (i * inf.size, inf.size)) (zerosOf (bif Nat.beq (len * inf.size) 0 then [] else z.cells.toList) (len * inf.size)) parts with
          | some cs => some (.slice S.next 0 len (.k len), newRowS S e cs)
          | none => none
        else none
      | none => none
    | none => none
  | _ => none
theorem evBuildSlice_ok (hr : Rel B G w0 E S w) {t : TypeId} {len : Nat} {parts : List (Nat × SV)} {sv : SV} {S' : St} (h : evBuildSlice P S t len parts = some (sv, S')) {vparts : Array (Nat × Value)}
    (hm : vparts.toList.map (·.1) = parts.map (·.1)) (hd : SV.denL E (parts.map (·.2)) = some (vparts.toList.map (·.2))) : Does B G w0 P E sv S' (Instr.buildSlice t len vparts) w := by
  unfold evBuildSlice at h
  split at h
  · rename_i e hu
    split at h
    · rename_i inf hi
      split at h
      · rename_i z hz
        cases hle : Nat.ble (len * inf.size) 16777216 with
        | false => rw [hle] at h; cases h
        | true =>
          rw [hle] at h
          simp only [cond_true] at h
          split at h
          · rename_i cs hcs
            simp only [Option.some.injEq, Prod.mk.injEq] at h
            obtain ⟨rfl, rfl⟩ := h
            have hle := Nat.le_of_ble_eq_true hle
            have hsz : (P.info? e).map (·.size) = some inf.size := by rw [hi]; rfl
            have hzz : (P.info? e).bind (·.zero) = some z := by rw [hi]; exact hz
            have hzeros : ∀ zz : Array Value, zz.toList = (bif Nat.beq (len * inf.size) 0 then [] else z.cells.toList) →
                SV.denL E (zerosOf (bif Nat.beq (len * inf.size) 0 then [] else z.cells.toList) (len * inf.size)) = some ((Array.range (len * inf.size)).map (fun i => zz[i % zz.size]!)).toList := fun zz hzz => by
              rw [← hzz]; exact zerosOf_den zz _
            obtain ⟨zz, hzz1, hzz2, hzz3⟩ : ∃ zz : Array Value, zz.toList = (bif Nat.beq (len * inf.size) 0 then [] else z.cells.toList) ∧ (len * inf.size = 0 → zz = #[]) ∧ (¬ len * inf.size = 0 → zz = z.cells) := by
              by_cases h0 : len * inf.size = 0
              · exact ⟨#[], by simp [h0], fun _ => rfl, fun h => absurd h0 h⟩
              · refine ⟨z.cells, ?_, fun h => absurd h h0, fun _ => rfl⟩
                have : Nat.beq (len * inf.size) 0 = false := by rw [← Bool.not_eq_true]; exact fun e => h0 (Nat.eq_of_beq_eq_true e)
                simp [this]
            obtain ⟨l', k1, k2⟩ := fillS_ok hr.env parts _ cs vparts.toList _ hcs (hzeros zz hzz1) hm hd
            obtain ⟨F, g1, g2, g3, g4⟩ := newRow_ok (P := P) hr (e := e) k1
            refine ⟨F, .slice (some ⟨w.heap.size, 0, none⟩) len len, _, g1, g3, by simp only [SV.den, g2, Cap.den], ?_⟩
            have h24 : ¬ (len * inf.size > 2 ^ 24) := by omega
            simp only [Instr.buildSlice, Sem.run_bind, run_underlying hu, Result.andThen_ok, run_sizeOf' hsz, h24, if_false]
            simp only [Array.toArray_toList] at k2
            by_cases h0 : len * inf.size = 0
            · rw [if_pos h0]
              have := hzz2 h0; subst this
              simp only [Sem.run_bind, Sem.run_pure, Result.andThen_ok, k2, g4]
            · rw [if_neg h0]
              have := hzz3 h0; subst this
              simp only [Sem.run_bind, run_zero' hzz, Sem.run_pure, Result.andThen_ok, k2, g4]
          · cases h
      · cases h
    · cases h
  · cases h
def partS (P : Program) (t : TypeId) (cs : List SV) (off : Nat) : Option SV :=
  match P.underlying t with
  | none => none
  | some d => bif isAggD d then
      match (P.info? t).map (·.size) with
      | some n => some (.agg ((cs.drop off).take n))
      | none => none
    else cs[off]?
theorem partS_ok {t : TypeId} {cs : List SV} {off : Nat} {sv : SV} {l : List Value} (h : partS P t cs off = some sv) (hl : SV.denL E cs = some l) :
    ∃ v, sv.den E = some v ∧ ∀ w : World, (part t l.toArray off).run P w = .ok v w := by
  unfold partS at h
  split at h
  · cases h
  · rename_i d hd
    cases hagg : isAggD d with
    | true =>
      rw [hagg] at h
      simp only [cond_true] at h
      split at h
      · rename_i n hsz
        simp only [Option.some.injEq] at h; subst h
        refine ⟨.agg ((l.drop off).take n).toArray, by simp only [SV.den, denL_take n (denL_drop off hl)], fun w => ?_⟩
        simp only [part, Sem.run_bind, run_isAgg' hd, Result.andThen_ok, hagg, if_true, run_sizeOf' hsz, Sem.run_pure]
        congr 2
        apply Array.ext'
        simp [List.extract_eq_take_drop]
      · cases h
    | false =>
      rw [hagg] at h
      simp only [cond_false] at h
      obtain ⟨v, hv, hden⟩ := denL_get hl h
      refine ⟨v, hden, fun w => ?_⟩
      simp only [part, Sem.run_bind, run_isAgg' hd, Result.andThen_ok, hagg, Bool.false_eq_true, if_false]
      simp [hv]
def aggOf : SV → Option (List SV)
  | .agg cs => some cs
  | .val (.agg cs) => some (cs.toList.map .val)
  | _ => none
theorem aggOf_den {x : SV} {cs : List SV} {v : Value} (h : aggOf x = some cs) (hx : x.den E = some v) : ∃ l, SV.denL E cs = some l ∧ v = .agg l.toArray := by
  unfold aggOf at h
  split at h
  · simp only [Option.some.injEq] at h; subst h; exact agg_den hx
  · rename_i c
    simp only [Option.some.injEq] at h; subst h
    simp only [SV.den, Option.some.injEq] at hx; subst hx
    exact ⟨c.toList, denL_vals _, by simp⟩
  · cases h
def evField (P : Program) (t : TypeId) (x : SV) (f : Nat) : Option SV :=
  match aggOf x, P.underlying t with
  | some cs, some (.struct fields) => match fields[f]? with
    | some fd => partS P fd.type cs fd.offset
    | none => none
  | _, _ => none
theorem evField_ok {t : TypeId} {x sv : SV} {f : Nat} {vx : Value} (h : evField P t x f = some sv) (hx : x.den E = some vx) : Quiet P E sv (Instr.field t vx f) := by
  unfold evField at h
  split at h
  · rename_i cs fields hc hu
    split at h
    · rename_i fd hfd
      obtain ⟨l, hl, rfl⟩ := aggOf_den hc hx
      obtain ⟨v, hv, hrun⟩ := partS_ok h hl
      exact .mk hv (fun w => by simp only [Instr.field, Sem.run_bind, run_underlying hu, Result.andThen_ok, hfd, asAgg, Sem.run_pure, hrun])
    · cases h
  · cases h
def evIndex (P : Program) (t : TypeId) (x i : SV) : Option SV :=
  match aggOf x, natOf i, P.underlying t with
  | some cs, some n, some (.array len e) => match (P.info? e).map (·.size) with
    | some sz => bif Nat.blt n len then partS P e cs (n * sz) else none
    | none => none
  | _, _, _ => none
theorem evIndex_ok {t : TypeId} {x i sv : SV} {vx vi : Value} (h : evIndex P t x i = some sv) (hx : x.den E = some vx) (hi : i.den E = some vi) : Quiet P E sv (Instr.index t vx vi) := by
  unfold evIndex at h
  split at h
  · rename_i cs n len e hc hn hu
    split at h
    · rename_i sz hsz
      cases hlt : Nat.blt n len with
      | false => rw [hlt] at h; cases h
      | true =>
        have hlt' : n < len := Nat.le_of_ble_eq_true hlt
        rw [hlt] at h
        simp only [cond_true] at h
        obtain ⟨l, hl, rfl⟩ := aggOf_den hc hx
        obtain ⟨k, rfl⟩ := natOf_ok hn hi
        obtain ⟨v, hv, hrun⟩ := partS_ok h hl
        refine .mk hv fun w => ?_
        have h1 : (0 : Int) ≤ (n : Int) ∧ (n : Int) < (len : Int) := ⟨by omega, by omega⟩
        simp only [Instr.index, asIntOf, Sem.run_bind, Sem.run_pure, Result.andThen_ok, run_underlying hu]
        simp only [h1, and_self, if_true, Sem.run_bind, run_sizeOf' hsz, Result.andThen_ok, Int.toNat_natCast, hrun]
    · cases h
  · cases h
def tupOf : SV → Option (List SV)
  | .tuple cs => some cs
  | .val (.tuple cs) => some (cs.toList.map .val)
  | _ => none
theorem tupOf_den {x : SV} {cs : List SV} {v : Value} (h : tupOf x = some cs) (hx : x.den E = some v) : ∃ l, SV.denL E cs = some l ∧ v = .tuple l.toArray := by
  unfold tupOf at h
  split at h
  · simp only [Option.some.injEq] at h; subst h
    simp only [SV.den] at hx
    split at hx
    · rename_i l hl; simp only [Option.some.injEq] at hx; exact ⟨l, hl, hx.symm⟩
    · cases hx
  · rename_i c
    simp only [Option.some.injEq] at h; subst h
    simp only [SV.den, Option.some.injEq] at hx; subst hx
    exact ⟨c.toList, denL_vals _, by simp⟩
  · cases h
def evExtract (x : SV) (i : Nat) : Option SV :=
  match tupOf x with
  | some cs => cs[i]?
  | none => none
theorem evExtract_ok {x sv : SV} {i : Nat} {vx : Value} (h : evExtract x i = some sv) (hx : x.den E = some vx) : Quiet P E sv (Instr.extract vx i) := by
  unfold evExtract at h
  split at h
  · rename_i cs hc
    obtain ⟨l, hl, rfl⟩ := tupOf_den hc hx
    obtain ⟨v, hv, hd⟩ := denL_get hl h
    exact .mk hd (fun w => by simp [Instr.extract, hv])
  · cases h
end
end Go.Ev
