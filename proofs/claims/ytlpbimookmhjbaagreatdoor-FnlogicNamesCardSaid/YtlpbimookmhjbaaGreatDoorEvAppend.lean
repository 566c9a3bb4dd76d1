/- append, copy, make of slices. -/
import Derived.Test.YtlpbimookmhjbaaGreatDoorEvSlice
namespace Go.Ev
open Go.RowKit (Below)

section
variable {B G : Nat} {w0 : Start} {E : Env} {S : St} {w : World} {P : Program}

/-- A block of the call's own goes under a new place; the old one is known no more. -/
theorem Rel.rebound (h : Rel B G w0 E S w) {id b : Nat} {o o' : SObj} {x' : Obj} (hf : find id S.heap = some o) (hb : E.ρ id = some b) (hG : G ≤ id) {w' : World}
    (hs : w'.heap.size = w.heap.size) (hk : ∀ k, k ≠ b → w'.heap[k]? = w.heap[k]?) (hx : w'.heap[b]? = some x') (ho' : ORel (E.place S.next b) o' x')
    (ht : w'.tape = w.tape) (hos : w'.os = w.os) (hp : w'.output = w.output) :
    E.le (E.place S.next b) ∧ Rel B G w0 (E.place S.next b) { S with heap := (S.next, o') :: kill id S.heap, next := S.next + 1 } w' := by
  have hB := h.own _ _ _ hf hG hb
  have hn := h.newρ S.next (Nat.le_refl _)
  have hle := E.place_le b hn
  have hbd := h.dom id b hb
  refine ⟨hle, ?_⟩
  have old : ∀ i y c, find i ((S.next, o') :: kill id S.heap) = some y → (E.place S.next b).ρ i = some c →
      (i = S.next ∧ c = b ∧ y = o') ∨ (i ≠ S.next ∧ c ≠ b ∧ find i S.heap = some y ∧ E.ρ i = some c) := fun i y c hi hc => by
    by_cases e : i = S.next
    · subst e; rw [find_cons_self] at hi; cases hi; rw [E.place_self] at hc; cases hc; exact .inl ⟨rfl, rfl, rfl⟩
    · rw [find_cons_ne e] at hi; rw [E.place_ne _ e] at hc
      obtain ⟨hne, hi⟩ := find_kill hi
      exact .inr ⟨e, fun ec => hne (h.inj i id y o b hi hf (ec ▸ hc) hb), hi, hc⟩
  exact
  { heap := fun i y hi => by
      by_cases e : i = S.next
      · subst e
        rw [find_cons_self] at hi; cases hi
        exact ⟨b, x', E.place_self _ _, hx, ho'⟩
      · rw [find_cons_ne e] at hi
        obtain ⟨hne, hi⟩ := find_kill hi
        obtain ⟨c, z, h1, h2, h3⟩ := h.heap i y hi
        have hcb : c ≠ b := fun ec => hne (h.inj i id y o b hi hf (ec ▸ h1) hb)
        exact ⟨c, z, hle.ρ _ _ h1, by rw [hk c hcb]; exact h2, h3.mono hle⟩
    inj := fun i j a c d hi hj hi' hj' => by
      rcases old i a d hi hi' with ⟨e1, e2, _⟩ | ⟨e1, e2, e3, e4⟩ <;> rcases old j c d hj hj' with ⟨f1, f2, _⟩ | ⟨f1, f2, f3, f4⟩
      · rw [e1, f1]
      · exact absurd e2 f2
      · exact absurd f2 e2
      · exact h.inj i j a c d e3 f3 e4 f4
    newρ := fun i hi => by
      have hi : S.next + 1 ≤ i := hi
      rw [E.place_ne _ (by omega)]; exact h.newρ i (by omega)
    newσ := h.newσ
    newκ := h.newκ
    dom := fun i c hc => by
      rw [hs]
      by_cases e : i = S.next
      · subst e; rw [E.place_self] at hc; cases hc; exact hbd
      · rw [E.place_ne _ e] at hc; exact h.dom i c hc
    own := fun i y c hi hg hc => by
      rcases old i y c hi hc with ⟨_, e2, _⟩ | ⟨e1, e2, e3, e4⟩
      · rw [e2]; exact hB
      · exact h.own i y c e3 hg e4
    base := by rw [hs]; exact h.base
    below := h.below.trans ⟨hos, ht, hp, by omega, fun k hk' => hk k (by omega)⟩
    lows := h.lows
    sorts := h.sorts
    pc := h.pc
    glob := fun i hi => hle.ρ _ _ (h.glob i hi)
    pins := h.pins
    ro := h.ro
    ra := h.ra
    deeps := h.deeps
    facts := fun q hq => by obtain ⟨vs, v, h1, h2, h3⟩ := h.facts q hq; exact ⟨vs, v, SV.denL_mono hle _ _ h1, SV.den_mono hle _ _ h2, h3⟩
    lists := h.listsKeep hle fun l hl ho v hv c hc _ => hk c fun e => by
      subst e
      exact (h.apart l hl ho v hv _ hc).1 id o hf hb
    apart := fun l hl ho v hv c hc => by
      have hv := h.listAt hl hle hv
      obtain ⟨h1, h2⟩ := h.apart l hl ho v hv c hc
      refine ⟨fun i y hi he => ?_, fun m hm hmo u hu => h2 m hm hmo u (h.listAt hm hle hu)⟩
      rcases old i y c hi he with ⟨_, e2, _⟩ | ⟨_, _, e3, e4⟩
      · rw [e2] at hc
        exact (h.apart l hl ho v hv _ hc).1 id o hf hb
      · exact h1 i y e3 e4 }

theorem rel_drew (hr : Rel B G w0 E S w) : Rel B G w0 E S { w with drawn := w.drawn + 1 } := hr.same rfl rfl rfl rfl

/-- append, where the array is outgrown. -/
theorem append_grow (t xt ty e : TypeId) (i : TypeInfo) (z : Value) (ht : P.underlying t = some (.slice e)) {d : TypeDesc} (hxt : P.underlying xt = some d) (hd : ∀ k, d ≠ .int k) (hi : P.info? e = some i) (hz : i.zero = some z)
    (hby : 1 ≤ i.bytes) {base : Option Addr} {sLen sCap n : Nat} {x : Value} {old new : List Value}
    (hlx : ∀ w' : World, (Builtin.lenOf x).run P w' = .ok n w') (hfx : ∀ w' : World, w'.heap = w.heap → (Builtin.firstCells i.size n x).run P w' = .ok new.toArray w')
    (hfo : ∀ w' : World, w'.heap = w.heap → (Builtin.firstCells i.size sLen (.slice base sLen sCap)).run P w' = .ok old.toArray w')
    (hg : sCap < sLen + n) (hfit : 2 * (sLen + n) * i.bytes ≤ 281474976710656) :
    ∃ c, sLen + n ≤ c ∧ (Builtin.append_ #[t, xt] ty #[.slice base sLen sCap, x]).run P w =
      .ok (.slice (some ⟨w.heap.size, 0, none⟩) (sLen + n) c)
        { w with drawn := w.drawn + 1, heap := w.heap.push (.cells (old ++ new ++ (Builtin.zeroCells z.cells (c - (sLen + n))).toList).toArray e) } := by
  refine ⟨grownCap w (sLen + n) sCap e, grownCap_ge _ _ _ _, ?_⟩
  have hn : ¬ (sLen + n ≤ sCap) := by omega
  have h48 : ¬ (Builtin.nextslicecap (sLen + n) sCap * i.bytes > 2 ^ 48) := by
    have h1 := nextslicecap_le (need := sLen + n) (old := sCap) hg
    have h2 := Nat.mul_le_mul_right i.bytes h1
    omega
  have hb0 : ¬ i.bytes = 0 := by omega
  have e1 := hfo { w with drawn := w.drawn + 1 } rfl
  have e2 := hfx { w with drawn := w.drawn + 1 } rfl
  simp only [Builtin.append_, List.getElem?_toArray, List.getElem?_cons_zero, List.getElem?_cons_succ, Sem.run_bind, run_underlying ht, run_underlying hxt, Result.andThen_ok, sizeOf, typeInfo, zeroValue, run_program, hi, hz, Sem.run_pure,
    hlx, hn, Bool.false_eq_true, if_false, Sem.run_ite, hb0, h48, or_false, and_false, run_choose, Question.forced, run_askRoom, e1, e2, newRow, run_newObj, Bool.not_false, if_true]
  simp only [grownCap]
  congr 3
  congr 1
  apply Array.ext'
  simp

theorem append_room (t xt ty e : TypeId) (i : TypeInfo) (ht : P.underlying t = some (.slice e)) {d : TypeDesc} (hxt : P.underlying xt = some d) (hd : ∀ k, d ≠ .int k) (hi : P.info? e = some i)
    {b off sLen sCap n : Nat} {x : Value} {new c : List Value} {e' : TypeId} {fz : Nat × Nat}
    (hlx : ∀ w' : World, (Builtin.lenOf x).run P w' = .ok n w') (hfx : ∀ w' : World, w'.heap = w.heap → (Builtin.firstCells i.size n x).run P w' = .ok new.toArray w')
    (hg : sLen + n ≤ sCap) (hh : w.heap[b]? = some (.cells c.toArray e' fz)) (hz : Thawed c.length fz) (hfit : off + sLen * i.size + new.length ≤ c.length) (h1 : ∀ v ∈ new, v.oneCell' = true) :
    ∃ w', (Builtin.append_ #[t, xt] ty #[.slice (some ⟨b, off, none⟩) sLen sCap, x]).run P w = .ok (.slice (some ⟨b, off, none⟩) (sLen + n) sCap) w' ∧
      w'.heap[b]? = some (.cells (c.take (off + sLen * i.size) ++ new ++ c.drop (off + sLen * i.size + new.length)).toArray e' fz) ∧
      w'.heap.size = w.heap.size ∧ (∀ k, k ≠ b → w'.heap[k]? = w.heap[k]?) ∧ w'.tape = w.tape ∧ w'.os = w.os ∧ w'.output = w.output := by
  obtain ⟨w', k1, k2, k3⟩ := stores_run (P := P) (off := off + sLen * i.size) new 0 c w hh hz (by omega) h1
  refine ⟨w', ?_, by simpa using k2, k3⟩
  have e2 := hfx w rfl
  simp only [Builtin.append_, List.getElem?_toArray, List.getElem?_cons_zero, List.getElem?_cons_succ, Sem.run_bind, run_underlying ht, run_underlying hxt, Result.andThen_ok, sizeOf, typeInfo, run_program, hi, Sem.run_pure,
    hlx, hg, Bool.false_eq_true, if_false, if_true, Bool.not_false, e2, add_at, k1]

def isIntD : TypeDesc → Bool
  | .int _ => true
  | _ => false

theorem isIntD_not {d : TypeDesc} (h : isIntD d = false) (k : IntKind) : d ≠ .int k := fun e => by subst e; cases h

def evAppend (P : Program) (G : Nat) (S : St) (t xt : TypeId) (s x : SV) : Option (SV × St) :=
  match P.underlying t, P.underlying xt with
  | some (.slice e), some d => bif isIntD d then none else
    match P.info? e with
    | none => none
    | some inf => match inf.zero with
      | none => none
      | some z =>
        bif !(Nat.beq z.cells.size inf.size && Nat.ble 1 inf.bytes) then none else
        match srcCells S inf.size x with
        | none => none
        | some (n, new) =>
          bif !(allOne S new) then none else
          match s with
          | .val (.slice none 0 0) =>
            match n with
            | 0 => some (.val (.slice none 0 0), S)
            | _ => bif Nat.ble (2 * n * inf.bytes) 281474976710656 then some (.slice S.next 0 n (.v S.ncap), newGrownS S e new inf.size n) else none
          | .slice id off sl cap => match find id S.heap with
            | some (.row cs e' wr ext) => match cap with
              | .k c =>
                bif Nat.ble (sl + n) c then
                  bif wr && (Nat.ble G id && Nat.ble (off + (sl + n) * inf.size) cs.length) then
                    some (.slice id off (sl + n) (.k c), { S with heap := upd id (.row (splice (off + sl * inf.size) new cs) e' true ext) S.heap })
                  else none
                else
                  bif Nat.ble (off + sl * inf.size) cs.length && Nat.ble (2 * (sl + n) * inf.bytes) 281474976710656 then
                    some (.slice S.next 0 (sl + n) (.v S.ncap), newGrownS S e ((cs.drop off).take (sl * inf.size) ++ new) inf.size (sl + n))
                  else none
              | .v i => match ext, find i S.lows with
                | some (j, u), some low =>
                  bif wr && (Nat.ble G id && (Nat.beq off 0 && (Nat.beq i j && (Nat.beq u inf.size && Nat.ble (sl * inf.size) cs.length)))) then
                    bif Nat.ble (sl + n) low then
                      some (.slice id 0 (sl + n) (.v i), { S with heap := upd id (.row (splice (sl * inf.size) new cs) e' true ext) S.heap })
                    else
                      bif Nat.ble (2 * (sl + n) * inf.bytes) 281474976710656 && Nat.beq e e' then
                        some (.slice S.next 0 (sl + n) (.v S.ncap), newGrownS { S with heap := kill id S.heap } e (cs.take (sl * inf.size) ++ new) inf.size (sl + n))
                      else none
                  else none
                | _, _ => none
            | _ => none
          | _ => none
  | _, _ => none

theorem splice_den {off : Nat} {new old : List SV} {ln lo : List Value} (hn : SV.denL E new = some ln) (ho : SV.denL E old = some lo) :
    SV.denL E (splice off new old) = some (lo.take off ++ ln ++ lo.drop (off + new.length)) :=
  denL_append (denL_append (denL_take off ho) hn) (denL_drop _ ho)

theorem evAppend_ok (hr : Rel B G w0 E S w) {t xt ty : TypeId} {s x sv : SV} {S' : St} {vs vx : Value} (h : evAppend P G S t xt s x = some (sv, S')) (hs : s.den E = some vs) (hx : x.den E = some vx) :
    Does B G w0 P E sv S' (Builtin.append_ #[t, xt] ty #[vs, vx]) w := by
  unfold evAppend at h
  split at h
  case h_2 => cases h
  rename_i e d ht hxt
  cases hd : isIntD d with
  | true => rw [hd] at h; cases h
  | false =>
  rw [hd] at h
  simp only [cond_false] at h
  split at h
  · cases h
  rename_i inf hi
  split at h
  · cases h
  rename_i z hz
  cases hc : (Nat.beq z.cells.size inf.size && Nat.ble 1 inf.bytes) with
  | false => rw [hc] at h; cases h
  | true =>
  rw [hc] at h
  simp only [Bool.not_true, cond_false] at h
  simp only [Bool.and_eq_true] at hc
  have hzs := Nat.eq_of_beq_eq_true hc.1
  have hby := Nat.le_of_ble_eq_true hc.2
  split at h
  · cases h
  rename_i n new hsrc
  obtain ⟨ln, hln, hlnl, hlx, hfx⟩ := srcCells_ok (P := P) hr hsrc hx
  cases h1 : allOne S new with
  | false => rw [h1] at h; cases h
  | true =>
  rw [h1] at h
  simp only [Bool.not_true, cond_false] at h
  have hone := allOne_ok hr.env h1 hln
  have hnl := denL_length hln
  have hdn := isIntD_not hd
  have hzc : ∀ m, (Builtin.zeroCells z.cells m).toList.length = m * inf.size := fun m => by simp [Builtin.zeroCells, hzs]
  split at h
  · -- nil
    simp only [SV.den, Option.some.injEq] at hs; subst hs
    split at h
    · simp only [Option.some.injEq, Prod.mk.injEq] at h
      obtain ⟨rfl, rfl⟩ := h
      have hnil : ln = [] := List.eq_nil_of_length_eq_zero (by simpa using hlnl)
      subst hnil
      refine .here hr (v := .slice none 0 0) (by simp only [SV.den]) ?_
      have e2 := hfx w rfl
      simp only [Builtin.append_, List.getElem?_toArray, List.getElem?_cons_zero, List.getElem?_cons_succ, Sem.run_bind, run_underlying ht, run_underlying hxt, Result.andThen_ok, sizeOf, typeInfo, run_program, hi, Sem.run_pure,
        hlx, Bool.false_eq_true, if_false, Nat.add_zero, Nat.le_refl, if_true, Bool.not_false, e2]
    · rename_i hn0
      cases hle : Nat.ble (2 * n * inf.bytes) 281474976710656 with
      | false => rw [hle] at h; cases h
      | true =>
        rw [hle] at h
        simp only [cond_true, Option.some.injEq, Prod.mk.injEq] at h
        obtain ⟨rfl, rfl⟩ := h
        have hle := Nat.le_of_ble_eq_true hle
        have hpos : 0 < n := by rcases Nat.eq_zero_or_pos n with h0 | h0; exact absurd h0 hn0; exact h0
        obtain ⟨c, hc1, hrun⟩ := append_grow (P := P) (w := w) t xt ty e inf z ht hxt hdn hi hz hby (base := none) (sLen := 0) (sCap := 0) (old := []) hlx hfx
          (fun w' _ => by simp [Builtin.firstCells]) (by omega) (by rw [Nat.zero_add]; exact hle)
        simp only [List.nil_append, Nat.zero_add] at hrun hc1
        obtain ⟨F, g1, g2, g3, g4⟩ := newGrown_ok hr (e := e) hln (low := n) hc1 (sz := inf.size) (Builtin.zeroCells z.cells (c - n)).toList (by rw [List.length_append, hlnl, hzc, ← Nat.add_mul]; congr 1; omega)
          (w' := { w with drawn := w.drawn + 1, heap := w.heap.push (.cells (ln ++ (Builtin.zeroCells z.cells (c - n)).toList).toArray e) }) rfl rfl rfl rfl
        exact ⟨F, _, _, g1, g4, by simp only [SV.den, g2, Cap.den, g3], hrun⟩
  · rename_i id off sl cap
    obtain ⟨b, m, hb, hm, rfl⟩ := slice_den hs
    split at h
    · rename_i cs e' wr ext hf
      obtain ⟨l, r, fz, hh, hl, hthaw, hx0, hx1⟩ := row_at hr hf hb
      have hlen := denL_length hl
      split at h
      · -- known capacity
        rename_i c
        simp only [Cap.den, Option.some.injEq] at hm; subst hm
        cases hroom : Nat.ble (sl + n) c with
        | true =>
          rw [hroom] at h
          simp only [cond_true] at h
          cases hok : (wr && (Nat.ble G id && Nat.ble (off + (sl + n) * inf.size) cs.length)) with
          | false => rw [hok] at h; cases h
          | true =>
            rw [hok] at h
            simp only [cond_true, Option.some.injEq, Prod.mk.injEq] at h
            obtain ⟨rfl, rfl⟩ := h
            simp only [Bool.and_eq_true] at hok
            obtain ⟨rfl, hG, hfit⟩ := hok
            have hfit := Nat.le_of_ble_eq_true hfit
            have hfit' : off + sl * inf.size + ln.length ≤ l.length := by rw [hlnl, hlen, Nat.add_assoc, ← Nat.add_mul]; exact hfit
            obtain ⟨w', k1, k2, k3, k4, k5, k6, k7⟩ := append_room (P := P) (w := w) (off := off) t xt ty e inf ht hxt hdn hi hlx hfx (Nat.le_of_ble_eq_true hroom) hh (hthaw rfl) (by simp; omega) hone
            have hsp : (l ++ r).take (off + sl * inf.size) ++ ln ++ (l ++ r).drop (off + sl * inf.size + ln.length) = (l.take (off + sl * inf.size) ++ ln ++ l.drop (off + sl * inf.size + new.length)) ++ r := by
              rw [hnl, List.take_append_of_le_length (by omega), List.drop_append_of_le_length (by omega)]
              simp
            rw [hsp] at k2
            have hsame : ((l.take (off + sl * inf.size) ++ ln ++ l.drop (off + sl * inf.size + new.length)) ++ r).length = (l ++ r).length := by simp; omega
            refine ⟨E, .slice (some ⟨b, off, none⟩) (sl + n) c, w', E.le_refl, hr.wrote hf hb (Nat.le_of_ble_eq_true hG) k3 k4 k2 ?_ k5 k6 k7, by simp only [SV.den, hb, Cap.den], k1⟩
            cases ext with
            | none =>
              have := hx0 rfl
              subst this
              exact ⟨_, fz, splice_den hln hl, by simp, fun _ => by
                have := hthaw rfl
                rw [← hsame] at this
                simpa using this⟩
            | some p =>
              obtain ⟨i, u⟩ := p
              obtain ⟨q, hq, hqu⟩ := hx1 i u rfl
              exact ⟨_, r, q, fz, splice_den hln hl, hq, by rw [hsame]; exact hqu, rfl, fun _ => by rw [hsame]; exact hthaw rfl⟩
        | false =>
          rw [hroom] at h
          simp only [cond_false] at h
          cases hok : (Nat.ble (off + sl * inf.size) cs.length && Nat.ble (2 * (sl + n) * inf.bytes) 281474976710656) with
          | false => rw [hok] at h; cases h
          | true =>
            rw [hok] at h
            simp only [cond_true, Option.some.injEq, Prod.mk.injEq] at h
            obtain ⟨rfl, rfl⟩ := h
            simp only [Bool.and_eq_true] at hok
            have hfit := Nat.le_of_ble_eq_true hok.1
            have hle := Nat.le_of_ble_eq_true hok.2
            have hroom' : c < sl + n := by
              rcases Nat.lt_or_ge c (sl + n) with h' | h'
              · exact h'
              · rw [Nat.ble_eq.mpr h'] at hroom; cases hroom
            have hold : ((l ++ r).drop off).take (sl * inf.size) = (l.drop off).take (sl * inf.size) := by
              rw [List.drop_append_of_le_length (by omega), List.take_append_of_le_length (by simp; omega)]
            obtain ⟨k, hc1, hrun⟩ := append_grow (P := P) (w := w) t xt ty e inf z ht hxt hdn hi hz hby (base := some ⟨b, off, none⟩) (sLen := sl) (sCap := c) (old := (l.drop off).take (sl * inf.size)) hlx hfx
              (fun w' hw => by
                have := loads_run (P := P) (w := w') (by rw [hw]; exact hh) (off := off) (n := sl * inf.size) (by simp; omega)
                rw [hold] at this
                simp only [Builtin.firstCells, this]) hroom' hle
            have hdo : SV.denL E ((cs.drop off).take (sl * inf.size) ++ new) = some ((l.drop off).take (sl * inf.size) ++ ln) := denL_append (denL_take _ (denL_drop off hl)) hln
            obtain ⟨F, g1, g2, g3, g4⟩ := newGrown_ok hr (e := e) hdo (low := sl + n) hc1 (sz := inf.size) (Builtin.zeroCells z.cells (k - (sl + n))).toList
              (by rw [List.length_append, List.length_append, hlnl, hzc, show ((l.drop off).take (sl * inf.size)).length = sl * inf.size by simp; omega, ← Nat.add_mul, ← Nat.add_mul]; congr 1; omega)
              (w' := { w with drawn := w.drawn + 1, heap := w.heap.push (.cells ((l.drop off).take (sl * inf.size) ++ ln ++ (Builtin.zeroCells z.cells (k - (sl + n))).toList).toArray e) }) rfl rfl rfl rfl
            exact ⟨F, _, _, g1, g4, by simp only [SV.den, g2, Cap.den, g3], hrun⟩
      · -- unknown capacity
        rename_i i
        simp only [Cap.den] at hm
        split at h
        · rename_i j u low hlow
          cases hok : (wr && (Nat.ble G id && (Nat.beq off 0 && (Nat.beq i j && (Nat.beq u inf.size && Nat.ble (sl * inf.size) cs.length))))) with
          | false => rw [hok] at h; cases h
          | true =>
            rw [hok] at h
            simp only [cond_true] at h
            simp only [Bool.and_eq_true] at hok
            obtain ⟨rfl, hG, h0, hij, hu, hkn⟩ := hok
            have h0 := Nat.eq_of_beq_eq_true h0; have hij := Nat.eq_of_beq_eq_true hij; have hu := Nat.eq_of_beq_eq_true hu; have hkn := Nat.le_of_ble_eq_true hkn
            have hG := Nat.le_of_ble_eq_true hG
            subst h0 hij hu
            obtain ⟨q, hq, hqu⟩ := hx1 _ _ rfl
            rw [hm] at hq; cases hq
            obtain ⟨q', hq', hlowq⟩ := hr.lows _ _ hlow
            rw [hm] at hq'; cases hq'
            have hthaw := hthaw rfl
            -- in place
            have inplace : sl + n ≤ m → ∃ w', (Builtin.append_ #[t, xt] ty #[.slice (some ⟨b, 0, none⟩) sl m, vx]).run P w = .ok (.slice (some ⟨b, 0, none⟩) (sl + n) m) w' ∧
                w'.heap[b]? = some (.cells (l.take (sl * inf.size) ++ ln ++ (l ++ r).drop (sl * inf.size + ln.length)).toArray e' fz) ∧
                w'.heap.size = w.heap.size ∧ (∀ k, k ≠ b → w'.heap[k]? = w.heap[k]?) ∧ w'.tape = w.tape ∧ w'.os = w.os ∧ w'.output = w.output := fun hroom => by
              have hfit : 0 + sl * inf.size + ln.length ≤ (l ++ r).length := by rw [hlnl, hqu, Nat.zero_add, ← Nat.add_mul]; exact Nat.mul_le_mul_right _ hroom
              obtain ⟨w', k1, k2, k3⟩ := append_room (P := P) (w := w) t xt ty e inf ht hxt hdn hi hlx hfx hroom hh hthaw hfit hone
              refine ⟨w', k1, ?_, k3⟩
              rw [k2, Nat.zero_add, List.take_append_of_le_length (by omega)]
            have hlenm : sl + n ≤ m → (l.take (sl * inf.size) ++ ln ++ (l ++ r).drop (sl * inf.size + ln.length)).length = m * inf.size := fun hroom => by
              have hfit : sl * inf.size + ln.length ≤ (l ++ r).length := by rw [hlnl, hqu, ← Nat.add_mul]; exact Nat.mul_le_mul_right _ hroom
              rw [← hqu]
              simp only [List.length_append, List.length_take, List.length_drop] at hfit ⊢
              omega
            cases hroom : Nat.ble (sl + n) low with
            | true =>
              rw [hroom] at h
              simp only [cond_true, Option.some.injEq, Prod.mk.injEq] at h
              obtain ⟨rfl, rfl⟩ := h
              have hroom := Nat.le_of_ble_eq_true hroom
              have hrm : sl + n ≤ m := by omega
              obtain ⟨w', k1, k2, k3, k4, k5, k6, k7⟩ := inplace hrm
              refine ⟨E, .slice (some ⟨b, 0, none⟩) (sl + n) m, w', E.le_refl, hr.wrote hf hb hG k3 k4 k2 ?_ k5 k6 k7, by simp only [SV.den, hb, Cap.den, hm], k1⟩
              by_cases hin : sl * inf.size + ln.length ≤ l.length
              · refine ⟨_, r, m, fz, splice_den hln hl, hm, ?_, ?_, fun _ => ?_⟩
                · rw [← hnl, List.append_assoc, ← List.drop_append_of_le_length (l₂ := r) hin]; exact hlenm hrm
                · rw [← hnl, List.append_assoc _ _ r, ← List.drop_append_of_le_length (l₂ := r) hin]
                · rw [← hnl, List.append_assoc _ _ r, ← List.drop_append_of_le_length (l₂ := r) hin, hlenm hrm, ← hqu]; exact hthaw
              · have hd0 : l.drop (sl * inf.size + new.length) = [] := by simp; omega
                refine ⟨_, (l ++ r).drop (sl * inf.size + ln.length), m, fz, splice_den hln hl, hm, ?_, ?_, fun _ => ?_⟩
                · rw [hd0, List.append_nil]; exact hlenm hrm
                · rw [hd0, List.append_nil]
                · rw [hd0, List.append_nil, hlenm hrm, ← hqu]; exact hthaw
            | false =>
              rw [hroom] at h
              simp only [cond_false] at h
              cases hok : (Nat.ble (2 * (sl + n) * inf.bytes) 281474976710656 && Nat.beq e e') with
              | false => rw [hok] at h; cases h
              | true =>
                rw [hok] at h
                simp only [cond_true, Option.some.injEq, Prod.mk.injEq] at h
                obtain ⟨rfl, rfl⟩ := h
                simp only [Bool.and_eq_true] at hok
                have hle := Nat.le_of_ble_eq_true hok.1
                have hee := Nat.eq_of_beq_eq_true hok.2
                subst hee
                have hdo : SV.denL E (cs.take (sl * inf.size) ++ new) = some (l.take (sl * inf.size) ++ ln) := denL_append (denL_take _ hl) hln
                by_cases hrm : sl + n ≤ m
                · obtain ⟨w', k1, k2, k3, k4, k5, k6, k7⟩ := inplace hrm
                  obtain ⟨c1, c2⟩ := newCap_ok hr (low := sl + n) (n := m) hrm
                  have hle2 := (E.cap S.ncap m).place_le b (c2.newρ S.next (Nat.le_refl _))
                  obtain ⟨r1, r2⟩ := c2.rebound hf (c1.ρ _ _ hb) hG k3 k4 k2 (o' := .row (cs.take (sl * inf.size) ++ new) e true (some (S.ncap, inf.size)))
                    ⟨_, (l ++ r).drop (sl * inf.size + ln.length), m, fz, SV.denL_mono (Env.le_trans c1 hle2) _ _ hdo, hle2.κ _ _ (Env.cap_self E _ m), hlenm hrm, rfl, fun _ => by rw [hlenm hrm, ← hqu]; exact hthaw⟩ k5 k6 k7
                  refine ⟨_, _, w', Env.le_trans c1 r1, r2, ?_, k1⟩
                  have p1 := Env.place_self (E.cap S.ncap m) S.next b
                  have p2 := hle2.κ _ _ (Env.cap_self E S.ncap m)
                  simp only [SV.den, Cap.den]
                  rw [show (newCapS S (sl + n)).next = S.next from rfl, p1, p2]
                · have hkill := hr.killed id
                  obtain ⟨k, hc1, hrun⟩ := append_grow (P := P) (w := w) t xt ty e inf z ht hxt hdn hi hz hby (base := some ⟨b, 0, none⟩) (sLen := sl) (sCap := m) (old := l.take (sl * inf.size)) hlx hfx
                    (fun w' hw => by
                      have := loads_run (P := P) (w := w') (by rw [hw]; exact hh) (off := 0) (n := sl * inf.size) (by simp; omega)
                      rw [List.drop_zero, List.take_append_of_le_length (by omega)] at this
                      simp only [Builtin.firstCells, this]) (by omega) hle
                  obtain ⟨F, g1, g2, g3, g4⟩ := newGrown_ok hkill (e := e) hdo (low := sl + n) hc1 (sz := inf.size) (Builtin.zeroCells z.cells (k - (sl + n))).toList
                    (by rw [List.length_append, List.length_append, hlnl, hzc, show (l.take (sl * inf.size)).length = sl * inf.size by simp; omega, ← Nat.add_mul, ← Nat.add_mul]; congr 1; omega)
                    (w' := { w with drawn := w.drawn + 1, heap := w.heap.push (.cells (l.take (sl * inf.size) ++ ln ++ (Builtin.zeroCells z.cells (k - (sl + n))).toList).toArray e) }) rfl rfl rfl rfl
                  exact ⟨F, _, _, g1, g4, by simp only [SV.den, Cap.den]; rw [show ({ S with heap := kill id S.heap } : St).next = S.next from rfl] at g2; rw [g2, g3], hrun⟩
        · cases h
    · cases h
  · cases h
end
end Go.Ev
