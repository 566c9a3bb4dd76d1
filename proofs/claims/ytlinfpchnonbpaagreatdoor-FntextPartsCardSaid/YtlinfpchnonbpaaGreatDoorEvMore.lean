/- Slices: cut, counted, made, appended to, copied. -/
import Derived.Test.YtlinfpchnonbpaaGreatDoorEvOps
namespace Go.Ev
open Go.RowKit (Below)
section
variable {B G : Nat} {w0 : Start} {E : Env} {S : St} {w : World} {P : Program}
def valO : Option SV → Option (Option Value)
  | none => some none
  | some x => match x.conc with
    | some v => some (some v)
    | none => none
theorem valO_ok {x : Option SV} {v : Option Value} (h : valO x = some v) {u : Option Value} (hu : ∀ y, x = some y → ∃ z, u = some z ∧ y.den E = some z) (hn : x = none → u = none) : u = v := by
  cases x with
  | none => simp only [valO, Option.some.injEq] at h; rw [hn rfl, ← h]
  | some y =>
    simp only [valO] at h
    split at h
    · rename_i z hz
      simp only [Option.some.injEq] at h
      obtain ⟨t, rfl, ht⟩ := hu y rfl
      rw [conc_den (E := E) _ _ hz] at ht
      rw [← h, ← ht]
    · cases h
def capLow (S : St) : Cap → Option Nat
  | .k n => some n
  | .v i => find i S.lows
theorem capLow_ok (hr : ERel E S) {c : Cap} {n : Nat} (h : capLow S c = some n) : ∃ m, c.den E = some m ∧ n ≤ m ∧ (∀ k, c = .k k → m = n) := by
  cases c with
  | k k => simp only [capLow, Option.some.injEq] at h; subst h; exact ⟨k, rfl, Nat.le_refl _, fun j hj => by cases hj; rfl⟩
  | v i =>
    obtain ⟨m, h1, h2⟩ := hr.lows i n h
    exact ⟨m, h1, h2, fun k hk => by cases hk⟩
def evSlice (P : Program) (S : St) (t : TypeId) (x : SV) (lo hi mx : Option SV) : Option SV :=
  match valO lo, valO hi, valO mx, P.underlying t with
  | some lo, some hi, some mx, some (.slice e) => match x, (P.info? e).map (·.size) with
    | .slice id off len (.k c), some sz => match pureRun P (Instr.sliceBounds true len c lo hi mx) with
      | some (l, h, m) => some (.slice id (bif Nat.beq m l then off else off + l * sz) (h - l) (.k (m - l)))
      | none => none
    | .slice id off len (.v i), some _ => match lo, mx, find i S.lows with
      | none, none, some low => match hi with
        | none => some (.slice id off len (.v i))
        | some (.int _ (.ofNat h)) => bif Nat.ble h low then some (.slice id off h (.v i)) else none
        | _ => none
      | _, _, _ => none
    | .val (.slice none len c), some _ => match pureRun P (Instr.sliceBounds true len c lo hi mx) with
      | some (l, h, m) => some (.val (.slice none (h - l) (m - l)))
      | none => none
    | _, _ => none
  | some lo, some hi, some mx, some (.array n e) => match norm S x, (P.info? e).map (·.size) with
    | .ptr id off, some sz => match pureRun P (Instr.sliceBounds false n n lo hi mx) with
      | some (l, h, m) => some (.slice id (bif Nat.beq m l then off else off + l * sz) (h - l) (.k (m - l)))
      | none => none
    | _, _ => none
  | _, _, _, _ => none
theorem evSlice_ok (hr : ERel E S) {t : TypeId} {x sv : SV} {lo hi mx : Option SV} {vx : Value} {vlo vhi vmx : Option Value} (h : evSlice P S t x lo hi mx = some sv) (hx : x.den E = some vx)
    (h1 : ∀ y, lo = some y → ∃ z, vlo = some z ∧ y.den E = some z) (h1' : lo = none → vlo = none)
    (h2 : ∀ y, hi = some y → ∃ z, vhi = some z ∧ y.den E = some z) (h2' : hi = none → vhi = none)
    (h3 : ∀ y, mx = some y → ∃ z, vmx = some z ∧ y.den E = some z) (h3' : mx = none → vmx = none) : Quiet P E sv (Instr.sliceAt t vx vlo vhi vmx) := by
  unfold evSlice at h
  split at h
  · rename_i lo' hi' mx' e hlo hhi hmx hu
    have e1 := valO_ok hlo h1 h1'; have e2 := valO_ok hhi h2 h2'; have e3 := valO_ok hmx h3 h3'
    subst e1 e2 e3
    split at h
    · rename_i id off len c sz hsz
      split at h
      · rename_i l h' m hb
        simp only [Option.some.injEq] at h; subst h
        obtain ⟨b, n, hb1, hb2, rfl⟩ := slice_den hx
        simp only [Cap.den, Option.some.injEq] at hb2; subst hb2
        refine .mk (v := .slice (some ⟨b, bif Nat.beq m l then off else off + l * sz, none⟩) (h' - l) (m - l)) (by simp only [SV.den, hb1, Cap.den]) fun w => ?_
        have hrun := pureRun_run hb w
        simp only [Instr.sliceAt, Instr.slice, Sem.run_bind, run_underlying hu, Result.andThen_ok, hrun, run_sizeOf' hsz, Sem.run_pure]
        by_cases hml : m = l
        · have : Nat.beq m l = true := Nat.beq_eq.mpr hml
          simp [hml]
        · have : Nat.beq m l = false := by rw [← Bool.not_eq_true]; exact fun e => hml (Nat.eq_of_beq_eq_true e)
          simp [hml, this, add_at]
      · cases h
    · rename_i id off len i sz hsz
      split at h
      · rename_i low hlow
        obtain ⟨b, n, hb1, hb2, rfl⟩ := slice_den hx
        obtain ⟨m', k1, k2⟩ := hr.lows i low hlow
        simp only [Cap.den] at hb2
        rw [k1] at hb2; cases hb2
        have fin : ∀ h' : Nat, (∀ w : World, (Instr.sliceBounds true len n none vhi none).run P w = .ok (0, h', n) w) → Quiet P E (.slice id off h' (.v i)) (Instr.sliceAt t (.slice (some ⟨b, off, none⟩) len n) none vhi none) := fun h' hrun => by
          refine .mk (v := .slice (some ⟨b, off, none⟩) h' n) (by simp only [SV.den, hb1, Cap.den, k1]) fun w => ?_
          simp only [Instr.sliceAt, Instr.slice, Sem.run_bind, run_underlying hu, Result.andThen_ok, hrun, run_sizeOf' hsz, Sem.run_pure]
          by_cases hml : n = 0
          · simp [hml]
          · simp [hml, add_at]
        split at h
        · simp only [Option.some.injEq] at h; subst h
          exact fin len (fun w => by simp [Instr.sliceBounds])
        · rename_i k h'
          cases hle : Nat.ble h' low with
          | false => rw [hle] at h; cases h
          | true =>
            rw [hle] at h
            simp only [cond_true, Option.some.injEq] at h; subst h
            have hle := Nat.le_of_ble_eq_true hle
            have hc : (0 : Int) ≤ Int.ofNat h' ∧ Int.ofNat h' ≤ (n : Int) := ⟨by simp, by simp; omega⟩
            refine fin h' fun w => ?_
            simp only [Instr.sliceBounds, Instr.sliceBound, asIntOf, Sem.run_bind, Sem.run_pure, Result.andThen_ok]
            rw [if_pos hc]
            simp
        · cases h
      · cases h
    · rename_i len c sz hsz
      split at h
      · rename_i l h' m hb
        simp only [Option.some.injEq] at h; subst h
        simp only [SV.den, Option.some.injEq] at hx; subst hx
        refine .mk (v := .slice none (h' - l) (m - l)) (by simp only [SV.den]) fun w => ?_
        have hrun := pureRun_run hb w
        simp only [Instr.sliceAt, Instr.slice, Sem.run_bind, run_underlying hu, Result.andThen_ok, hrun, run_sizeOf' hsz, Sem.run_pure]
        simp
      · cases h
    · cases h
  · rename_i lo' hi' mx' n e hlo hhi hmx hu
    have e1 := valO_ok hlo h1 h1'; have e2 := valO_ok hhi h2 h2'; have e3 := valO_ok hmx h3 h3'
    subst e1 e2 e3
    split at h
    · rename_i id off sz hp hsz
      split at h
      · rename_i l h' m hb
        simp only [Option.some.injEq] at h; subst h
        have hnx := norm_den hr hx
        rw [hp] at hnx
        obtain ⟨b, hb1, rfl⟩ := ptr_den hnx
        refine .mk (v := .slice (some ⟨b, bif Nat.beq m l then off else off + l * sz, none⟩) (h' - l) (m - l)) (by simp only [SV.den, hb1, Cap.den]) fun w => ?_
        have hrun := pureRun_run hb w
        simp only [Instr.sliceAt, Sem.run_bind, run_underlying hu, Result.andThen_ok, Instr.sureAddr, hrun, run_sizeOf' hsz, Sem.run_pure]
        by_cases hml : m = l
        · have : Nat.beq m l = true := Nat.beq_eq.mpr hml
          simp [hml]
        · have : Nat.beq m l = false := by rw [← Bool.not_eq_true]; exact fun e => hml (Nat.eq_of_beq_eq_true e)
          simp [hml, this, add_at]
      · cases h
    · cases h
  · cases h
def bytesL (s : ByteArray) : List Value := s.data.toList.map fun b => .int .u8 b.toNat
def srcCells (S : St) (sz : Nat) : SV → Option (Nat × List SV)
  | .slice id off len _ => match find id S.heap with
    | some (.row cs _ _ _) => bif Nat.ble (off + len * sz) cs.length then some (len, (cs.drop off).take (len * sz)) else none
    | _ => none
  | .val (.slice none len _) => bif Nat.beq len 0 then some (0, []) else none
  | .val (.string s) => bif Nat.beq sz 1 then some (s.size, (bytesL s).map .val) else none
  | _ => none
theorem srcCells_ok (hr : Rel B G w0 E S w) {sz : Nat} {x : SV} {n : Nat} {cs : List SV} {vx : Value} (h : srcCells S sz x = some (n, cs)) (hx : x.den E = some vx) :
    ∃ l, SV.denL E cs = some l ∧ l.length = n * sz ∧ (∀ w' : World, (Builtin.lenOf vx).run P w' = .ok n w') ∧ (∀ w' : World, w'.heap = w.heap → (Builtin.firstCells sz n vx).run P w' = .ok l.toArray w') := by
  unfold srcCells at h
  split at h
  · rename_i id off len c
    split at h
    · rename_i cells e wr ext hf
      cases hle : Nat.ble (off + len * sz) cells.length with
      | false => rw [hle] at h; cases h
      | true =>
        have hle' := Nat.le_of_ble_eq_true hle
        rw [hle] at h
        simp only [cond_true, Option.some.injEq, Prod.mk.injEq] at h
        obtain ⟨rfl, rfl⟩ := h
        obtain ⟨b, m, hb, -, rfl⟩ := slice_den hx
        obtain ⟨l, r, fz, hh, hl, -, -, -⟩ := row_at hr hf hb
        have hlen := denL_length hl
        refine ⟨(l.drop off).take (len * sz), denL_take _ (denL_drop off hl), by simp; omega, fun w' => by simp [Builtin.lenOf], fun w' hw => ?_⟩
        have hrun := loads_run (P := P) (w := w') (by rw [hw]; exact hh) (off := off) (n := len * sz) (by simp; omega)
        have e2 : ((l ++ r).drop off).take (len * sz) = (l.drop off).take (len * sz) := by
          rw [List.drop_append_of_le_length (by omega), List.take_append_of_le_length (by simp; omega)]
        rw [e2] at hrun
        simp only [Builtin.firstCells, hrun]
    · cases h
  · rename_i len c
    cases h0 : Nat.beq len 0 with
    | false => rw [h0] at h; cases h
    | true =>
      have h0' := Nat.eq_of_beq_eq_true h0
      rw [h0] at h
      simp only [cond_true, Option.some.injEq, Prod.mk.injEq] at h
      obtain ⟨rfl, rfl⟩ := h
      simp only [SV.den, Option.some.injEq] at hx; subst hx
      exact ⟨[], rfl, by simp, fun w' => by simp [Builtin.lenOf, h0'], fun w' _ => by simp [Builtin.firstCells]⟩
  · rename_i s
    cases h0 : Nat.beq sz 1 with
    | false => rw [h0] at h; cases h
    | true =>
      have h0' := Nat.eq_of_beq_eq_true h0
      rw [h0] at h
      simp only [cond_true, Option.some.injEq, Prod.mk.injEq] at h
      obtain ⟨rfl, rfl⟩ := h
      simp only [SV.den, Option.some.injEq] at hx; subst hx
      have hs : s.data.size = s.size := rfl
      refine ⟨bytesL s, denL_vals _, by simp [bytesL, h0', hs], fun w' => by simp [Builtin.lenOf], fun w' _ => ?_⟩
      simp only [Builtin.firstCells, Sem.run_pure, bytesL]
      congr 1
      apply Array.ext'
      simp
  · cases h
def Env.cap (E : Env) (i n : Nat) : Env := { E with κ := fun j => bif Nat.beq j i then some n else E.κ j }
theorem Env.cap_self (E : Env) (i n : Nat) : (E.cap i n).κ i = some n := by simp [Env.cap]
theorem Env.cap_ne (E : Env) {i j : Nat} (n : Nat) (h : j ≠ i) : (E.cap i n).κ j = E.κ j := by
  have : Nat.beq j i = false := by rw [← Bool.not_eq_true]; exact fun e => h (Nat.eq_of_beq_eq_true e)
  simp [Env.cap, this]
theorem Env.cap_le (E : Env) {i : Nat} (n : Nat) (h : E.κ i = none) : E.le (E.cap i n) :=
  ⟨fun _ _ h => h, fun _ _ h => h, fun j c hj => by
    by_cases e : j = i
    · subst e; rw [h] at hj; cases hj
    · rw [Env.cap_ne E n e]; exact hj⟩
def newCapS (S : St) (low : Nat) : St := { S with ncap := S.ncap + 1, lows := (S.ncap, low) :: S.lows }
theorem newCap_ok (hr : Rel B G w0 E S w) {low n : Nat} (hn : low ≤ n) : E.le (E.cap S.ncap n) ∧ Rel B G w0 (E.cap S.ncap n) (newCapS S low) w := by
  have hle := E.cap_le n (hr.newκ S.ncap (Nat.le_refl _))
  refine ⟨hle, ?_⟩
  exact
  { hr with
    heap := fun id o hi => by obtain ⟨b, x, h1, h2, h3⟩ := hr.heap id o hi; exact ⟨b, x, h1, h2, h3.mono hle⟩
    newκ := fun i hi => by
      have hi : S.ncap + 1 ≤ i := hi
      rw [Env.cap_ne E n (by omega)]; exact hr.newκ i (by omega)
    lows := fun i m hi => by
      by_cases e : i = S.ncap
      · subst e
        simp only [newCapS] at hi
        rw [find_cons_self] at hi; cases hi
        exact ⟨n, Env.cap_self E _ n, hn⟩
      · simp only [newCapS] at hi
        rw [find_cons_ne e] at hi
        obtain ⟨k, h1, h2⟩ := hr.lows i m hi
        exact ⟨k, hle.κ _ _ h1, h2⟩
    facts := fun q hq => by obtain ⟨vs, v, h1, h2, h3⟩ := hr.facts q hq; exact ⟨vs, v, SV.denL_mono hle _ _ h1, SV.den_mono hle _ _ h2, h3⟩
    lists := hr.listsKeep hle fun _ _ _ _ _ _ _ _ => rfl }
def newGrownS (S : St) (e : TypeId) (cs : List SV) (sz low : Nat) : St :=
  { S with ncap := S.ncap + 1, lows := (S.ncap, low) :: S.lows, heap := (S.next, .row cs e true (some (S.ncap, sz))) :: S.heap, next := S.next + 1 }
theorem newGrown_ok (hr : Rel B G w0 E S w) {e : TypeId} {cs : List SV} {l : List Value} (hl : SV.denL E cs = some l) {low n sz : Nat} (hn : low ≤ n) (r : List Value) (hlen : (l ++ r).length = n * sz)
    {w' : World} (hw : w'.heap = w.heap.push (.cells (l ++ r).toArray e)) (ht : w'.tape = w.tape) (hos : w'.os = w.os) (hp : w'.output = w.output) :
    ∃ F, E.le F ∧ F.ρ S.next = some w.heap.size ∧ F.κ S.ncap = some n ∧ Rel B G w0 F (newGrownS S e cs sz low) w' := by
  obtain ⟨k1, k2⟩ := newCap_ok hr hn
  have hle := (E.cap S.ncap n).place_le w.heap.size (k2.newρ S.next (Nat.le_refl _))
  obtain ⟨h1, h2⟩ := k2.pushed (o := .row cs e true (some (S.ncap, sz))) (x := .cells (l ++ r).toArray e) (w' := w') hw ht hos hp
    ⟨l, r, n, (0, 0), SV.denL_mono (Env.le_trans k1 hle) _ _ hl, hle.κ _ _ (Env.cap_self E _ n), hlen, rfl, fun _ => .zero _⟩
  exact ⟨_, Env.le_trans k1 h1, Env.place_self _ _ _, hle.κ _ _ (Env.cap_self E _ n), h2⟩
end
end Go.Ev
namespace Go.Ev
open Go.RowKit (Below)
section
variable {B G : Nat} {w0 : Start} {E : Env} {S : St} {w : World} {P : Program}
theorem Rel.rebound (h : Rel B G w0 E S w) {id b : Nat} {o o' : SObj} {x' : Obj} (hf : find id S.heap = some o) (hb : E.ρ id = some b) (hG : G ≤ id) {w' : World}
    (hs : w'.heap.size = w.heap.size) (hk : ∀ k, k ≠ b → w'.heap[k]? = w.heap[k]?) (hx : w'.heap[b]? = some x') (ho' : ORel (E.place S.next b) o' x')
    (ht : w'.tape = w.tape) (hos : w'.os = w.os) (hp : w'.output = w.output) :
    E.le (E.place S.next b) ∧ Rel B G w0 (E.place S.next b) { S with heap := (S.next, o') :: kill id S.heap, next := S.next + 1 } w' := by
  have hB := h.own _ _ _ hf hG hb
  have hn := h.newρ S.next (Nat.le_refl _)
  have hle := E.place_le b hn
  have hbd := h.dom id b hb
  refine ⟨hle, ?_⟩
  have old : ∀ i y c, find i ((S.next, o') :: kill id S.heap) = some y → (E.place S.next b).ρ i = some c →
      (i = S.next ∧ c = b ∧ y = o') ∨ (i ≠ S.next ∧ c ≠ b ∧ find i S.heap = some y ∧ E.ρ i = some c) := fun i y c hi hc => by
    by_cases e : i = S.next
    · subst e; rw [find_cons_self] at hi; cases hi; rw [E.place_self] at hc; cases hc; exact .inl ⟨rfl, rfl, rfl⟩
    · rw [find_cons_ne e] at hi; rw [E.place_ne _ e] at hc
      obtain ⟨hne, hi⟩ := find_kill hi
      exact .inr ⟨e, fun ec => h.other hi hc hf hb hG ec hne, hi, hc⟩
  exact
  { heap := fun i y hi => by
      by_cases e : i = S.next
      · subst e
        rw [find_cons_self] at hi; cases hi
        exact ⟨b, x', E.place_self _ _, hx, ho'⟩
      · rw [find_cons_ne e] at hi
        obtain ⟨hne, hi⟩ := find_kill hi
        obtain ⟨c, z, h1, h2, h3⟩ := h.heap i y hi
        have hcb : c ≠ b := fun ec => h.other hi h1 hf hb hG ec hne
        exact ⟨c, z, hle.ρ _ _ h1, by rw [hk c hcb]; exact h2, h3.mono hle⟩
    low := fun i y c hi hg hc => by
      rcases old i y c hi hc with ⟨e1, _, _⟩ | ⟨e1, e2, e3, e4⟩
      · have := h.next; omega
      · exact h.low i y c e3 hg e4
    next := Nat.le_succ_of_le h.next
    inj := fun i j a c d hi hj hi' hj' gi gj => by
      rcases old i a d hi hi' with ⟨e1, e2, _⟩ | ⟨e1, e2, e3, e4⟩ <;> rcases old j c d hj hj' with ⟨f1, f2, _⟩ | ⟨f1, f2, f3, f4⟩
      · rw [e1, f1]
      · exact absurd e2 f2
      · exact absurd f2 e2
      · exact h.inj i j a c d e3 f3 e4 f4 gi gj
    newρ := fun i hi => by
      have hi : S.next + 1 ≤ i := hi
      rw [E.place_ne _ (by omega)]; exact h.newρ i (by omega)
    newσ := h.newσ
    newκ := h.newκ
    dom := fun i c hc => by
      rw [hs]
      by_cases e : i = S.next
      · subst e; rw [E.place_self] at hc; cases hc; exact hbd
      · rw [E.place_ne _ e] at hc; exact h.dom i c hc
    own := fun i y c hi hg hc => by
      rcases old i y c hi hc with ⟨_, e2, _⟩ | ⟨e1, e2, e3, e4⟩
      · rw [e2]; exact hB
      · exact h.own i y c e3 hg e4
    base := by rw [hs]; exact h.base
    below := h.below.trans ⟨hos, ht, hp, by omega, fun k hk' => hk k (by omega)⟩
    lows := h.lows
    sorts := h.sorts
    pc := h.pc
    glob := fun i hi => hle.ρ _ _ (h.glob i hi)
    pins := h.pins
    ro := h.ro
    ra := h.ra
    deeps := h.deeps
    facts := fun q hq => by obtain ⟨vs, v, h1, h2, h3⟩ := h.facts q hq; exact ⟨vs, v, SV.denL_mono hle _ _ h1, SV.den_mono hle _ _ h2, h3⟩
    lists := h.listsKeep hle fun l hl ho v hv c hc _ => hk c fun e => by
      subst e
      exact (h.apart l hl ho v hv _ hc).1 id o hf hb
    apart := fun l hl ho v hv c hc => by
      have hv := h.listAt hl hle hv
      obtain ⟨h1, h2⟩ := h.apart l hl ho v hv c hc
      refine ⟨fun i y hi he => ?_, fun m hm hmo u hu => h2 m hm hmo u (h.listAt hm hle hu)⟩
      rcases old i y c hi he with ⟨_, e2, _⟩ | ⟨_, _, e3, e4⟩
      · rw [e2] at hc
        exact (h.apart l hl ho v hv _ hc).1 id o hf hb
      · exact h1 i y e3 e4 }
theorem rel_drew (hr : Rel B G w0 E S w) : Rel B G w0 E S { w with drawn := w.drawn + 1 } := hr.same rfl rfl rfl rfl
theorem append_grow (t xt ty e : TypeId) (i : TypeInfo) (z : Value) (ht : P.underlying t = some (.slice e)) {d : TypeDesc} (hxt : P.underlying xt = some d) (hd : ∀ k, d ≠ .int k) (hi : P.info? e = some i) (hz : i.zero = some z)
    (hby : 1 ≤ i.bytes) {base : Option Addr} {sLen sCap n : Nat} {x : Value} {old new : List Value}
    (hlx : ∀ w' : World, (Builtin.lenOf x).run P w' = .ok n w') (hfx : ∀ w' : World, w'.heap = w.heap → (Builtin.firstCells i.size n x).run P w' = .ok new.toArray w')
    (hfo : ∀ w' : World, w'.heap = w.heap → (Builtin.firstCells i.size sLen (.slice base sLen sCap)).run P w' = .ok old.toArray w')
    (hg : sCap < sLen + n) (hfit : 2 * (sLen + n) * i.bytes ≤ 281474976710656) :
    ∃ c, sLen + n ≤ c ∧ (Builtin.append_ #[t, xt] ty #[.slice base sLen sCap, x]).run P w =
      .ok (.slice (some ⟨w.heap.size, 0, none⟩) (sLen + n) c)
        { w with drawn := w.drawn + 1, heap := w.heap.push (.cells (old ++ new ++ (Builtin.zeroCells z.cells (c - (sLen + n))).toList).toArray e) } := by
  refine ⟨grownCap w (sLen + n) sCap e, grownCap_ge _ _ _ _, ?_⟩
  have hn : ¬ (sLen + n ≤ sCap) := by omega
  have h48 : ¬ (Builtin.nextslicecap (sLen + n) sCap * i.bytes > 2 ^ 48) := by
    have h1 := nextslicecap_le (need := sLen + n) (old := sCap) hg
    have h2 := Nat.mul_le_mul_right i.bytes h1
    omega
  have hb0 : ¬ i.bytes = 0 := by omega
  have e1 := hfo { w with drawn := w.drawn + 1 } rfl
  have e2 := hfx { w with drawn := w.drawn + 1 } rfl
  simp only [Builtin.append_, List.getElem?_toArray, List.getElem?_cons_zero, List.getElem?_cons_succ, Sem.run_bind, run_underlying ht, run_underlying hxt, Result.andThen_ok, sizeOf, typeInfo, zeroValue, run_program, hi, hz, Sem.run_pure,
    hlx, hn, Bool.false_eq_true, if_false, Sem.run_ite, hb0, h48, or_false, and_false, run_choose, Question.forced, run_askRoom, e1, e2, newRow, run_newObj, Bool.not_false, if_true]
  simp only [grownCap]
  congr 3
  congr 1
  apply Array.ext'
  simp
theorem append_room (t xt ty e : TypeId) (i : TypeInfo) (ht : P.underlying t = some (.slice e)) {d : TypeDesc} (hxt : P.underlying xt = some d) (hd : ∀ k, d ≠ .int k) (hi : P.info? e = some i)
    {b off sLen sCap n : Nat} {x : Value} {new c : List Value} {e' : TypeId} {fz : Nat × Nat}
    (hlx : ∀ w' : World, (Builtin.lenOf x).run P w' = .ok n w') (hfx : ∀ w' : World, w'.heap = w.heap → (Builtin.firstCells i.size n x).run P w' = .ok new.toArray w')
    (hg : sLen + n ≤ sCap) (hh : w.heap[b]? = some (.cells c.toArray e' fz)) (hz : Thawed c.length fz) (hfit : off + sLen * i.size + new.length ≤ c.length) (h1 : ∀ v ∈ new, v.oneCell' = true) :
    ∃ w', (Builtin.append_ #[t, xt] ty #[.slice (some ⟨b, off, none⟩) sLen sCap, x]).run P w = .ok (.slice (some ⟨b, off, none⟩) (sLen + n) sCap) w' ∧
      w'.heap[b]? = some (.cells (c.take (off + sLen * i.size) ++ new ++ c.drop (off + sLen * i.size + new.length)).toArray e' fz) ∧
      w'.heap.size = w.heap.size ∧ (∀ k, k ≠ b → w'.heap[k]? = w.heap[k]?) ∧ w'.tape = w.tape ∧ w'.os = w.os ∧ w'.output = w.output := by
  obtain ⟨w', k1, k2, k3⟩ := stores_run (P := P) (off := off + sLen * i.size) new 0 c w hh hz (by omega) h1
  refine ⟨w', ?_, by simpa using k2, k3⟩
  have e2 := hfx w rfl
  simp only [Builtin.append_, List.getElem?_toArray, List.getElem?_cons_zero, List.getElem?_cons_succ, Sem.run_bind, run_underlying ht, run_underlying hxt, Result.andThen_ok, sizeOf, typeInfo, run_program, hi, Sem.run_pure,
    hlx, hg, Bool.false_eq_true, if_false, if_true, Bool.not_false, e2, add_at, k1]
def isIntD : TypeDesc → Bool
  | .int _ => true
  | _ => false
theorem isIntD_not {d : TypeDesc} (h : isIntD d = false) (k : IntKind) : d ≠ .int k := fun e => by subst e; cases h
def evAppend (P : Program) (G : Nat) (S : St) (t xt : TypeId) (s x : SV) : Option (SV × St) :=
  match P.underlying t, P.underlying xt with
  | some (.slice e), some d => bif isIntD d then none else
    match P.info? e with
    | none => none
    | some inf => match inf.zero with
      | none => none
      | some z =>
        bif !(Nat.beq z.cells.size inf.size && Nat.ble 1 inf.bytes) then none else
        match srcCells S inf.size x with
        | none => none
        | some (n, new) =>
          bif !(allOne S new) then none else
          match s with
          | .val (.slice none 0 0) =>
            match n with
            | 0 => some (.val (.slice none 0 0), S)
            | _ => bif Nat.ble (2 * n * inf.bytes) 281474976710656 then some (.slice S.next 0 n (.v S.ncap), newGrownS S e new inf.size n) else none
          | .slice id off sl cap => match find id S.heap with
            | some (.row cs e' wr ext) => match cap with
              | .k c =>
                bif Nat.ble (sl + n) c then
                  bif wr && (Nat.ble G id && Nat.ble (off + (sl + n) * inf.size) cs.length) then
                    some (.slice id off (sl + n) (.k c), { S with heap := upd id (.row (splice (off + sl * inf.size) new cs) e' true ext) S.heap })
                  else none
                else
                  bif Nat.ble (off + sl * inf.size) cs.length && Nat.ble (2 * (sl + n) * inf.bytes) 281474976710656 then
                    some (.slice S.next 0 (sl + n) (.v S.ncap), newGrownS S e ((cs.drop off).take (sl * inf.size) ++ new) inf.size (sl + n))
                  else none
              | .v i => match ext, find i S.lows with
                | some (j, u), some low =>
                  bif wr && (Nat.ble G id && (Nat.beq off 0 && (Nat.beq i j && (Nat.beq u inf.size && Nat.ble (sl * inf.size) cs.length)))) then
                    bif Nat.ble (sl + n) low then
                      some (.slice id 0 (sl + n) (.v i), { S with heap := upd id (.row (splice (sl * inf.size) new cs) e' true ext) S.heap })
                    else
                      bif Nat.ble (2 * (sl + n) * inf.bytes) 281474976710656 && Nat.beq e e' then
                        some (.slice S.next 0 (sl + n) (.v S.ncap), newGrownS { S with heap := kill id S.heap } e (cs.take (sl * inf.size) ++ new) inf.size (sl + n))
                      else none
                  else none
                | _, _ => none
            | _ => none
          | _ => none
  | _, _ => none
theorem splice_den {off : Nat} {new old : List SV} {ln lo : List Value} (hn : SV.denL E new = some ln) (ho : SV.denL E old = some lo) :
    SV.denL E (splice off new old) = some (lo.take off ++ ln ++ lo.drop (off + new.length)) :=
  denL_append (denL_append (denL_take off ho) hn) (denL_drop _ ho)
theorem evAppend_ok (hr : Rel B G w0 E S w) {t xt ty : TypeId} {s x sv : SV} {S' : St} {vs vx : Value} (h : evAppend P G S t xt s x = some (sv, S')) (hs : s.den E = some vs) (hx : x.den E = some vx) :
    Does B G w0 P E sv S' (Builtin.append_ #[t, xt] ty #[vs, vx]) w := by
  unfold evAppend at h
  split at h
  case h_2 => cases h
  rename_i e d ht hxt
  cases hd : isIntD d with
  | true => rw [hd] at h; cases h
  | false =>
  rw [hd] at h
  simp only [cond_false] at h
  split at h
  · cases h
  rename_i inf hi
  split at h
  · cases h
  rename_i z hz
  cases hc : (Nat.beq z.cells.size inf.size && Nat.ble 1 inf.bytes) with
  | false => rw [hc] at h; cases h
  | true =>
  rw [hc] at h
  simp only [Bool.not_true, cond_false] at h
  simp only [Bool.and_eq_true] at hc
  have hzs := Nat.eq_of_beq_eq_true hc.1
  have hby := Nat.le_of_ble_eq_true hc.2
  split at h
  · cases h
  rename_i n new hsrc
  obtain ⟨ln, hln, hlnl, hlx, hfx⟩ := srcCells_ok (P := P) hr hsrc hx
  cases h1 : allOne S new with
  | false => rw [h1] at h; cases h
  | true =>
  rw [h1] at h
  simp only [Bool.not_true, cond_false] at h
  have hone := allOne_ok hr.env h1 hln
  have hnl := denL_length hln
  have hdn := isIntD_not hd
  have hzc : ∀ m, (Builtin.zeroCells z.cells m).toList.length = m * inf.size := fun m => by simp [Builtin.zeroCells, hzs]
  split at h
  · -- nil
    simp only [SV.den, Option.some.injEq] at hs; subst hs
    split at h
    · simp only [Option.some.injEq, Prod.mk.injEq] at h
      obtain ⟨rfl, rfl⟩ := h
      have hnil : ln = [] := List.eq_nil_of_length_eq_zero (by simpa using hlnl)
      subst hnil
      refine .here hr (v := .slice none 0 0) (by simp only [SV.den]) ?_
      have e2 := hfx w rfl
      simp only [Builtin.append_, List.getElem?_toArray, List.getElem?_cons_zero, List.getElem?_cons_succ, Sem.run_bind, run_underlying ht, run_underlying hxt, Result.andThen_ok, sizeOf, typeInfo, run_program, hi, Sem.run_pure,
        hlx, Bool.false_eq_true, if_false, Nat.add_zero, Nat.le_refl, if_true, Bool.not_false, e2]
    · rename_i hn0
      cases hle : Nat.ble (2 * n * inf.bytes) 281474976710656 with
      | false => rw [hle] at h; cases h
      | true =>
        rw [hle] at h
        simp only [cond_true, Option.some.injEq, Prod.mk.injEq] at h
        obtain ⟨rfl, rfl⟩ := h
        have hle := Nat.le_of_ble_eq_true hle
        have hpos : 0 < n := by rcases Nat.eq_zero_or_pos n with h0 | h0; exact absurd h0 hn0; exact h0
        obtain ⟨c, hc1, hrun⟩ := append_grow (P := P) (w := w) t xt ty e inf z ht hxt hdn hi hz hby (base := none) (sLen := 0) (sCap := 0) (old := []) hlx hfx
          (fun w' _ => by simp [Builtin.firstCells]) (by omega) (by rw [Nat.zero_add]; exact hle)
        simp only [List.nil_append, Nat.zero_add] at hrun hc1
        obtain ⟨F, g1, g2, g3, g4⟩ := newGrown_ok hr (e := e) hln (low := n) hc1 (sz := inf.size) (Builtin.zeroCells z.cells (c - n)).toList (by rw [List.length_append, hlnl, hzc, ← Nat.add_mul]; congr 1; omega)
          (w' := { w with drawn := w.drawn + 1, heap := w.heap.push (.cells (ln ++ (Builtin.zeroCells z.cells (c - n)).toList).toArray e) }) rfl rfl rfl rfl
        exact ⟨F, _, _, g1, g4, by simp only [SV.den, g2, Cap.den, g3], hrun⟩
  · rename_i id off sl cap
    obtain ⟨b, m, hb, hm, rfl⟩ := slice_den hs
    split at h
    · rename_i cs e' wr ext hf
      obtain ⟨l, r, fz, hh, hl, hthaw, hx0, hx1⟩ := row_at hr hf hb
      have hlen := denL_length hl
      split at h
      · -- known capacity
        rename_i c
        simp only [Cap.den, Option.some.injEq] at hm; subst hm
        cases hroom : Nat.ble (sl + n) c with
        | true =>
          rw [hroom] at h
          simp only [cond_true] at h
          cases hok : (wr && (Nat.ble G id && Nat.ble (off + (sl + n) * inf.size) cs.length)) with
          | false => rw [hok] at h; cases h
          | true =>
            rw [hok] at h
            simp only [cond_true, Option.some.injEq, Prod.mk.injEq] at h
            obtain ⟨rfl, rfl⟩ := h
            simp only [Bool.and_eq_true] at hok
            obtain ⟨rfl, hG, hfit⟩ := hok
            have hfit := Nat.le_of_ble_eq_true hfit
            have hfit' : off + sl * inf.size + ln.length ≤ l.length := by rw [hlnl, hlen, Nat.add_assoc, ← Nat.add_mul]; exact hfit
            obtain ⟨w', k1, k2, k3, k4, k5, k6, k7⟩ := append_room (P := P) (w := w) (off := off) t xt ty e inf ht hxt hdn hi hlx hfx (Nat.le_of_ble_eq_true hroom) hh (hthaw rfl) (by simp; omega) hone
            have hsp : (l ++ r).take (off + sl * inf.size) ++ ln ++ (l ++ r).drop (off + sl * inf.size + ln.length) = (l.take (off + sl * inf.size) ++ ln ++ l.drop (off + sl * inf.size + new.length)) ++ r := by
              rw [hnl, List.take_append_of_le_length (by omega), List.drop_append_of_le_length (by omega)]
              simp
            rw [hsp] at k2
            have hsame : ((l.take (off + sl * inf.size) ++ ln ++ l.drop (off + sl * inf.size + new.length)) ++ r).length = (l ++ r).length := by simp; omega
            refine ⟨E, .slice (some ⟨b, off, none⟩) (sl + n) c, w', E.le_refl, hr.wrote hf hb (Nat.le_of_ble_eq_true hG) k3 k4 k2 ?_ k5 k6 k7, by simp only [SV.den, hb, Cap.den], k1⟩
            cases ext with
            | none =>
              have := hx0 rfl
              subst this
              exact ⟨_, fz, splice_den hln hl, by simp, fun _ => row_clear hr hf hb hh⟩
            | some p =>
              obtain ⟨i, u⟩ := p
              obtain ⟨q, hq, hqu⟩ := hx1 i u rfl
              exact ⟨_, r, q, fz, splice_den hln hl, hq, by rw [hsame]; exact hqu, rfl, fun _ => by rw [hsame]; exact hthaw rfl⟩
        | false =>
          rw [hroom] at h
          simp only [cond_false] at h
          cases hok : (Nat.ble (off + sl * inf.size) cs.length && Nat.ble (2 * (sl + n) * inf.bytes) 281474976710656) with
          | false => rw [hok] at h; cases h
          | true =>
            rw [hok] at h
            simp only [cond_true, Option.some.injEq, Prod.mk.injEq] at h
            obtain ⟨rfl, rfl⟩ := h
            simp only [Bool.and_eq_true] at hok
            have hfit := Nat.le_of_ble_eq_true hok.1
            have hle := Nat.le_of_ble_eq_true hok.2
            have hroom' : c < sl + n := by
              rcases Nat.lt_or_ge c (sl + n) with h' | h'
              · exact h'
              · rw [Nat.ble_eq.mpr h'] at hroom; cases hroom
            have hold : ((l ++ r).drop off).take (sl * inf.size) = (l.drop off).take (sl * inf.size) := by
              rw [List.drop_append_of_le_length (by omega), List.take_append_of_le_length (by simp; omega)]
            obtain ⟨k, hc1, hrun⟩ := append_grow (P := P) (w := w) t xt ty e inf z ht hxt hdn hi hz hby (base := some ⟨b, off, none⟩) (sLen := sl) (sCap := c) (old := (l.drop off).take (sl * inf.size)) hlx hfx
              (fun w' hw => by
                have := loads_run (P := P) (w := w') (by rw [hw]; exact hh) (off := off) (n := sl * inf.size) (by simp; omega)
                rw [hold] at this
                simp only [Builtin.firstCells, this]) hroom' hle
            have hdo : SV.denL E ((cs.drop off).take (sl * inf.size) ++ new) = some ((l.drop off).take (sl * inf.size) ++ ln) := denL_append (denL_take _ (denL_drop off hl)) hln
            obtain ⟨F, g1, g2, g3, g4⟩ := newGrown_ok hr (e := e) hdo (low := sl + n) hc1 (sz := inf.size) (Builtin.zeroCells z.cells (k - (sl + n))).toList
              (by rw [List.length_append, List.length_append, hlnl, hzc, show ((l.drop off).take (sl * inf.size)).length = sl * inf.size by simp; omega, ← Nat.add_mul, ← Nat.add_mul]; congr 1; omega)
              (w' := { w with drawn := w.drawn + 1, heap := w.heap.push (.cells ((l.drop off).take (sl * inf.size) ++ ln ++ (Builtin.zeroCells z.cells (k - (sl + n))).toList).toArray e) }) rfl rfl rfl rfl
            exact ⟨F, _, _, g1, g4, by simp only [SV.den, g2, Cap.den, g3], hrun⟩
      · -- unknown capacity
        rename_i i
        simp only [Cap.den] at hm
        split at h
        · rename_i j u low hlow
          cases hok : (wr && (Nat.ble G id && (Nat.beq off 0 && (Nat.beq i j && (Nat.beq u inf.size && Nat.ble (sl * inf.size) cs.length))))) with
          | false => rw [hok] at h; cases h
          | true =>
            rw [hok] at h
            simp only [cond_true] at h
            simp only [Bool.and_eq_true] at hok
            obtain ⟨rfl, hG, h0, hij, hu, hkn⟩ := hok
            have h0 := Nat.eq_of_beq_eq_true h0; have hij := Nat.eq_of_beq_eq_true hij; have hu := Nat.eq_of_beq_eq_true hu; have hkn := Nat.le_of_ble_eq_true hkn
            have hG := Nat.le_of_ble_eq_true hG
            subst h0 hij hu
            obtain ⟨q, hq, hqu⟩ := hx1 _ _ rfl
            rw [hm] at hq; cases hq
            obtain ⟨q', hq', hlowq⟩ := hr.lows _ _ hlow
            rw [hm] at hq'; cases hq'
            have hthaw := hthaw rfl
            -- in place
            have inplace : sl + n ≤ m → ∃ w', (Builtin.append_ #[t, xt] ty #[.slice (some ⟨b, 0, none⟩) sl m, vx]).run P w = .ok (.slice (some ⟨b, 0, none⟩) (sl + n) m) w' ∧
                w'.heap[b]? = some (.cells (l.take (sl * inf.size) ++ ln ++ (l ++ r).drop (sl * inf.size + ln.length)).toArray e' fz) ∧
                w'.heap.size = w.heap.size ∧ (∀ k, k ≠ b → w'.heap[k]? = w.heap[k]?) ∧ w'.tape = w.tape ∧ w'.os = w.os ∧ w'.output = w.output := fun hroom => by
              have hfit : 0 + sl * inf.size + ln.length ≤ (l ++ r).length := by rw [hlnl, hqu, Nat.zero_add, ← Nat.add_mul]; exact Nat.mul_le_mul_right _ hroom
              obtain ⟨w', k1, k2, k3⟩ := append_room (P := P) (w := w) t xt ty e inf ht hxt hdn hi hlx hfx hroom hh hthaw hfit hone
              refine ⟨w', k1, ?_, k3⟩
              rw [k2, Nat.zero_add, List.take_append_of_le_length (by omega)]
            have hlenm : sl + n ≤ m → (l.take (sl * inf.size) ++ ln ++ (l ++ r).drop (sl * inf.size + ln.length)).length = m * inf.size := fun hroom => by
              have hfit : sl * inf.size + ln.length ≤ (l ++ r).length := by rw [hlnl, hqu, ← Nat.add_mul]; exact Nat.mul_le_mul_right _ hroom
              rw [← hqu]
              simp only [List.length_append, List.length_take, List.length_drop] at hfit ⊢
              omega
            cases hroom : Nat.ble (sl + n) low with
            | true =>
              rw [hroom] at h
              simp only [cond_true, Option.some.injEq, Prod.mk.injEq] at h
              obtain ⟨rfl, rfl⟩ := h
              have hroom := Nat.le_of_ble_eq_true hroom
              have hrm : sl + n ≤ m := by omega
              obtain ⟨w', k1, k2, k3, k4, k5, k6, k7⟩ := inplace hrm
              refine ⟨E, .slice (some ⟨b, 0, none⟩) (sl + n) m, w', E.le_refl, hr.wrote hf hb hG k3 k4 k2 ?_ k5 k6 k7, by simp only [SV.den, hb, Cap.den, hm], k1⟩
              by_cases hin : sl * inf.size + ln.length ≤ l.length
              · refine ⟨_, r, m, fz, splice_den hln hl, hm, ?_, ?_, fun _ => ?_⟩
                · rw [← hnl, List.append_assoc, ← List.drop_append_of_le_length (l₂ := r) hin]; exact hlenm hrm
                · rw [← hnl, List.append_assoc _ _ r, ← List.drop_append_of_le_length (l₂ := r) hin]
                · rw [← hnl, List.append_assoc _ _ r, ← List.drop_append_of_le_length (l₂ := r) hin, hlenm hrm, ← hqu]; exact hthaw
              · have hd0 : l.drop (sl * inf.size + new.length) = [] := by simp; omega
                refine ⟨_, (l ++ r).drop (sl * inf.size + ln.length), m, fz, splice_den hln hl, hm, ?_, ?_, fun _ => ?_⟩
                · rw [hd0, List.append_nil]; exact hlenm hrm
                · rw [hd0, List.append_nil]
                · rw [hd0, List.append_nil, hlenm hrm, ← hqu]; exact hthaw
            | false =>
              rw [hroom] at h
              simp only [cond_false] at h
              cases hok : (Nat.ble (2 * (sl + n) * inf.bytes) 281474976710656 && Nat.beq e e') with
              | false => rw [hok] at h; cases h
              | true =>
                rw [hok] at h
                simp only [cond_true, Option.some.injEq, Prod.mk.injEq] at h
                obtain ⟨rfl, rfl⟩ := h
                simp only [Bool.and_eq_true] at hok
                have hle := Nat.le_of_ble_eq_true hok.1
                have hee := Nat.eq_of_beq_eq_true hok.2
                subst hee
                have hdo : SV.denL E (cs.take (sl * inf.size) ++ new) = some (l.take (sl * inf.size) ++ ln) := denL_append (denL_take _ hl) hln
                by_cases hrm : sl + n ≤ m
                · obtain ⟨w', k1, k2, k3, k4, k5, k6, k7⟩ := inplace hrm
                  obtain ⟨c1, c2⟩ := newCap_ok hr (low := sl + n) (n := m) hrm
                  have hle2 := (E.cap S.ncap m).place_le b (c2.newρ S.next (Nat.le_refl _))
                  obtain ⟨r1, r2⟩ := c2.rebound hf (c1.ρ _ _ hb) hG k3 k4 k2 (o' := .row (cs.take (sl * inf.size) ++ new) e true (some (S.ncap, inf.size)))
                    ⟨_, (l ++ r).drop (sl * inf.size + ln.length), m, fz, SV.denL_mono (Env.le_trans c1 hle2) _ _ hdo, hle2.κ _ _ (Env.cap_self E _ m), hlenm hrm, rfl, fun _ => by rw [hlenm hrm, ← hqu]; exact hthaw⟩ k5 k6 k7
                  refine ⟨_, _, w', Env.le_trans c1 r1, r2, ?_, k1⟩
                  have p1 := Env.place_self (E.cap S.ncap m) S.next b
                  have p2 := hle2.κ _ _ (Env.cap_self E S.ncap m)
                  simp only [SV.den, Cap.den]
                  rw [show (newCapS S (sl + n)).next = S.next from rfl, p1, p2]
                · have hkill := hr.killed id
                  obtain ⟨k, hc1, hrun⟩ := append_grow (P := P) (w := w) t xt ty e inf z ht hxt hdn hi hz hby (base := some ⟨b, 0, none⟩) (sLen := sl) (sCap := m) (old := l.take (sl * inf.size)) hlx hfx
                    (fun w' hw => by
                      have := loads_run (P := P) (w := w') (by rw [hw]; exact hh) (off := 0) (n := sl * inf.size) (by simp; omega)
                      rw [List.drop_zero, List.take_append_of_le_length (by omega)] at this
                      simp only [Builtin.firstCells, this]) (by omega) hle
                  obtain ⟨F, g1, g2, g3, g4⟩ := newGrown_ok hkill (e := e) hdo (low := sl + n) hc1 (sz := inf.size) (Builtin.zeroCells z.cells (k - (sl + n))).toList
                    (by rw [List.length_append, List.length_append, hlnl, hzc, show (l.take (sl * inf.size)).length = sl * inf.size by simp; omega, ← Nat.add_mul, ← Nat.add_mul]; congr 1; omega)
                    (w' := { w with drawn := w.drawn + 1, heap := w.heap.push (.cells (l.take (sl * inf.size) ++ ln ++ (Builtin.zeroCells z.cells (k - (sl + n))).toList).toArray e) }) rfl rfl rfl rfl
                  exact ⟨F, _, _, g1, g4, by simp only [SV.den, Cap.den]; rw [show ({ S with heap := kill id S.heap } : St).next = S.next from rfl] at g2; rw [g2, g3], hrun⟩
        · cases h
    · cases h
  · cases h
end
end Go.Ev
namespace Go.Ev
open Go.RowKit (Below)
section
variable {B G : Nat} {w0 : Start} {E : Env} {S : St} {w : World} {P : Program}
def evCopy (P : Program) (G : Nat) (S : St) (t : TypeId) (d x : SV) : Option (SV × St) :=
  match P.underlying t with
  | some (.slice e) => match (P.info? e).map (·.size) with
    | none => none
    | some sz => match srcCells S sz x with
      | none => none
      | some (n, new) => match d with
        | .slice id off dl _ => match find id S.heap with
          | some (.row cs e' true ext) =>
            let k := bif Nat.ble n dl then n else dl
            let new := new.take (k * sz)
            bif Nat.ble G id && (allOne S new && Nat.ble (off + k * sz) cs.length) then
              some (.val (goInt k), { S with heap := upd id (.row (splice off new cs) e' true ext) S.heap })
            else none
          | _ => none
        | .val (.slice none 0 _) => some (.val (goInt 0), S)
        | _ => none
  | _ => none
theorem srcCells_take (hr : Rel B G w0 E S w) {sz : Nat} {x : SV} {n : Nat} {cs : List SV} {vx : Value} (h : srcCells S sz x = some (n, cs)) (hx : x.den E = some vx) {k : Nat} (hk : k ≤ n) :
    ∃ l, SV.denL E cs = some l ∧ l.length = n * sz ∧ (Builtin.lenOf vx).run P w = .ok n w ∧ (Builtin.firstCells sz k vx).run P w = .ok (l.take (k * sz)).toArray w := by
  obtain ⟨l, h1, h2, h3, h4⟩ := srcCells_ok (P := P) hr h hx
  refine ⟨l, h1, h2, h3 w, ?_⟩
  have hkn : k * sz ≤ n * sz := Nat.mul_le_mul_right _ hk
  unfold srcCells at h
  split at h
  · rename_i id off len c
    split at h
    · rename_i cells e wr ext hf
      cases hle : Nat.ble (off + len * sz) cells.length with
      | false => rw [hle] at h; cases h
      | true =>
        have hle' := Nat.le_of_ble_eq_true hle
        rw [hle] at h
        simp only [cond_true, Option.some.injEq, Prod.mk.injEq] at h
        obtain ⟨rfl, rfl⟩ := h
        obtain ⟨b, m, hb, -, rfl⟩ := slice_den hx
        obtain ⟨l', r, fz, hh, hl, -, -, -⟩ := row_at hr hf hb
        have hlen := denL_length hl
        have hl2 := denL_take (len * sz) (denL_drop off hl)
        rw [h1] at hl2; cases hl2
        have hrun := loads_run (P := P) hh (off := off) (n := k * sz) (by simp; omega)
        have e2 : ((l' ++ r).drop off).take (k * sz) = ((l'.drop off).take (len * sz)).take (k * sz) := by
          rw [List.drop_append_of_le_length (by omega), List.take_append_of_le_length (by simp; omega), List.take_take, Nat.min_eq_left hkn]
        rw [e2] at hrun
        simp only [Builtin.firstCells, hrun]
    · cases h
  · rename_i len c
    cases h0 : Nat.beq len 0 with
    | false => rw [h0] at h; cases h
    | true =>
      rw [h0] at h
      simp only [cond_true, Option.some.injEq, Prod.mk.injEq] at h
      obtain ⟨rfl, rfl⟩ := h
      simp only [SV.denL, Option.some.injEq] at h1; subst h1
      simp only [SV.den, Option.some.injEq] at hx; subst hx
      simp [Builtin.firstCells]
  · rename_i s
    cases h0 : Nat.beq sz 1 with
    | false => rw [h0] at h; cases h
    | true =>
      have h0' := Nat.eq_of_beq_eq_true h0
      rw [h0] at h
      simp only [cond_true, Option.some.injEq, Prod.mk.injEq] at h
      obtain ⟨rfl, rfl⟩ := h
      simp only [SV.den, Option.some.injEq] at hx; subst hx
      rw [denL_vals] at h1; cases h1
      simp only [Builtin.firstCells, Sem.run_pure, bytesL]
      congr 1
      apply Array.ext'
      simp [h0']
  · cases h
theorem evCopy_ok (hr : Rel B G w0 E S w) {t ty xt : TypeId} {d x sv : SV} {S' : St} {vd vx : Value} (h : evCopy P G S t d x = some (sv, S')) (hd : d.den E = some vd) (hx : x.den E = some vx) :
    Does B G w0 P E sv S' (Builtin.copy_ #[t, xt] ty #[vd, vx]) w := by
  unfold evCopy at h
  split at h
  case h_2 => cases h
  rename_i e ht
  split at h
  · cases h
  rename_i sz hsz
  split at h
  · cases h
  rename_i n new hsrc
  split at h
  · rename_i id off dl c
    obtain ⟨b, m, hb, -, rfl⟩ := slice_den hd
    split at h
    · rename_i cs e' ext hf
      obtain ⟨k, hk⟩ : ∃ k, k = (bif Nat.ble n dl then n else dl) := ⟨_, rfl⟩
      simp only [← hk] at h
      have hkmin : k = Nat.min n dl := by
        cases hle : Nat.ble n dl with
        | true => rw [hle] at hk; have := Nat.le_of_ble_eq_true hle; simp at hk; rw [hk]; exact (Nat.min_eq_left this).symm
        | false =>
          rw [hle] at hk
          have : dl ≤ n := by
            rcases Nat.le_total n dl with h' | h'
            · rw [Nat.ble_eq.mpr h'] at hle; cases hle
            · exact h'
          simp at hk; rw [hk]; exact (Nat.min_eq_right this).symm
      have hkn : k ≤ n := by rw [hkmin]; exact Nat.min_le_left _ _
      cases hok : (Nat.ble G id && (allOne S (new.take (k * sz)) && Nat.ble (off + k * sz) cs.length)) with
      | false => rw [hok] at h; cases h
      | true =>
        rw [hok] at h
        simp only [cond_true, Option.some.injEq, Prod.mk.injEq] at h
        obtain ⟨rfl, rfl⟩ := h
        simp only [Bool.and_eq_true] at hok
        obtain ⟨hG, h1, hfit⟩ := hok
        have hfit := Nat.le_of_ble_eq_true hfit
        obtain ⟨ln, hln, hlnl, hlx, hfx⟩ := srcCells_take (P := P) hr hsrc hx hkn
        obtain ⟨l, r, fz, hh, hl, hz, hx0, hx1⟩ := row_at hr hf hb
        have hlen := denL_length hl
        have hlt := denL_take (k * sz) hln
        have hone := allOne_ok hr.env h1 hlt
        have hltl : (ln.take (k * sz)).length = k * sz := by
          have := Nat.mul_le_mul_right sz hkn
          simp; omega
        have hntl : (new.take (k * sz)).length = k * sz := by rw [← denL_length hlt]; exact hltl
        obtain ⟨w', k1, k2, k3, k4, k5, k6, k7⟩ := stores_run (P := P) (off := off) (ln.take (k * sz)) 0 (l ++ r) w hh (hz rfl) (by simp; omega) hone
        simp only [Nat.add_zero] at k2
        have hsp : (l ++ r).take off ++ ln.take (k * sz) ++ (l ++ r).drop (off + (ln.take (k * sz)).length) = (l.take off ++ ln.take (k * sz) ++ l.drop (off + (new.take (k * sz)).length)) ++ r := by
          rw [hltl, hntl, List.take_append_of_le_length (by omega), List.drop_append_of_le_length (by omega)]
          simp
        rw [hsp] at k2
        have hsame : ((l.take off ++ ln.take (k * sz) ++ l.drop (off + (new.take (k * sz)).length)) ++ r).length = (l ++ r).length := by
          rw [hntl]; simp only [List.length_append, List.length_take, List.length_drop] at hltl ⊢; omega
        refine ⟨E, goInt k, w', E.le_refl, hr.wrote hf hb (Nat.le_of_ble_eq_true hG) k3 k4 k2 ?_ k5 k6 k7, by simp only [SV.den], ?_⟩
        · cases ext with
          | none =>
            have := hx0 rfl
            subst this
            exact ⟨_, fz, splice_den hlt hl, by simp, fun _ => row_clear hr hf hb hh⟩
          | some p =>
            obtain ⟨i, u⟩ := p
            obtain ⟨q, hq, hqu⟩ := hx1 i u rfl
            exact ⟨_, r, q, fz, splice_den hlt hl, hq, by rw [hsame]; exact hqu, rfl, fun _ => by rw [hsame]; exact hz rfl⟩
        · simp only [Builtin.copy_, List.getElem?_toArray, List.getElem?_cons_zero, List.getElem?_cons_succ, Sem.run_bind, run_underlying ht, Result.andThen_ok, hlx, ← hkmin, run_sizeOf' hsz, hfx, k1, Sem.run_pure]
    · cases h
  · rename_i c
    simp only [Option.some.injEq, Prod.mk.injEq] at h
    obtain ⟨rfl, rfl⟩ := h
    simp only [SV.den, Option.some.injEq] at hd; subst hd
    obtain ⟨ln, hln, hlnl, hlx, hfx⟩ := srcCells_take (P := P) hr hsrc hx (Nat.zero_le _)
    refine .here hr (v := goInt 0) (by simp only [SV.den]) ?_
    have : Nat.min n 0 = 0 := Nat.min_zero n
    simp only [Builtin.copy_, List.getElem?_toArray, List.getElem?_cons_zero, List.getElem?_cons_succ, Sem.run_bind, run_underlying ht, Result.andThen_ok, hlx, this, run_sizeOf' hsz, hfx, Sem.run_pure]
    rfl
  · cases h
def evLen (P : Program) (S : St) (t : TypeId) (x : SV) : Option SV :=
  match P.underlying t, x with
  | some (.slice _), .slice _ _ len _ => some (.val (goInt len))
  | some (.map _ _), .map id => match find id S.heap with
    | some (.map es _) => some (.val (goInt es.length))
    | _ => none
  | some (.array n _), _ => some (.val (goInt n))
  | _, _ => none
theorem map_den {id : Nat} {v : Value} (h : (SV.map id).den E = some v) : ∃ b, E.ρ id = some b ∧ v = .map (some b) := by
  simp only [SV.den] at h
  split at h
  · rename_i b hb; simp only [Option.some.injEq] at h; exact ⟨b, hb, h.symm⟩
  · cases h
theorem map_at (h : Rel B G w0 E S w) {id b : Nat} {es : List (SV × SV × Nat)} {clock : Nat} (hf : find id S.heap = some (.map es clock)) (hb : E.ρ id = some b) :
    ∃ l : List MapEntry, w.heap[b]? = some (.map l.toArray clock) ∧ MRel E es l := by
  obtain ⟨b', x, h1, h2, l, rfl, h3⟩ := h.heap id _ hf
  rw [hb] at h1; cases h1
  exact ⟨l, h2, h3⟩
theorem MRel.length : ∀ {xs : List (SV × SV × Nat)} {ms : List MapEntry}, MRel E xs ms → ms.length = xs.length
  | [], [], _ => rfl
  | _ :: _, _ :: _, ⟨_, _, _, d⟩ => by simp [MRel.length d]
  | [], _ :: _, k => k.elim
  | _ :: _, [], k => k.elim
theorem run_getObj_map {b : Nat} {l : Array MapEntry} {c : Nat} (h : w.heap[b]? = some (.map l c)) : (getObj b).run P w = .ok (.map l c) w := by
  simp only [getObj, Sem.run, h]
theorem evLen_ok (hr : Rel B G w0 E S w) {t ty : TypeId} {x sv : SV} {vx : Value} (h : evLen P S t x = some sv) (hx : x.den E = some vx) : Does B G w0 P E sv S (Builtin.len_ #[t] ty #[vx]) w := by
  unfold evLen at h
  split at h
  · rename_i e id off len c hu
    simp only [Option.some.injEq] at h; subst h
    obtain ⟨b, m, hb, -, rfl⟩ := slice_den hx
    exact .here hr (v := goInt len) (by simp only [SV.den]) (by simp [Builtin.len_, run_underlying hu])
  · rename_i k e id hu
    split at h
    · rename_i es clock hf
      simp only [Option.some.injEq] at h; subst h
      obtain ⟨b, hb, rfl⟩ := map_den hx
      obtain ⟨l, h1, h2⟩ := map_at hr hf hb
      have h2 := h2.length
      refine .here hr (v := goInt es.length) (by simp only [SV.den]) ?_
      simp [Builtin.len_, run_underlying hu, run_getObj_map h1, h2]
    · cases h
  · rename_i _ n _ hu
    simp only [Option.some.injEq] at h; subst h
    exact .here hr (v := goInt n) (by simp only [SV.den]) (by simp [Builtin.len_, run_underlying hu])
  · cases h
def evMakeSlice (P : Program) (S : St) (t : TypeId) (l c : SV) : Option (SV × St) :=
  match P.underlying t, natOf l, natOf c with
  | some (.slice e), some l, some c => match P.info? e with
    | some inf => match inf.zero with
      | some z =>
        bif Nat.ble l c && (Nat.ble c 4611686018427387904 && Nat.ble (inf.bytes * c) 281474976710656) then
          some (.slice S.next 0 l (.k c), newRowS S e (zerosOf (bif Nat.beq (c * inf.size) 0 then [] else z.cells.toList) (c * inf.size)))
        else none
      | none => none
    | none => none
  | _, _, _ => none
theorem wrap_small {n : Nat} (h : n ≤ 4611686018427387904) : IntKind.i64.wrap (n : Int) = n := by
  have : IntKind.i64.wrap (n : Int) = (((n : Int) + 9223372036854775808) % 18446744073709551616) - 9223372036854775808 := by
    simp [IntKind.wrap, IntKind.signed, IntKind.bits]
    try omega
  omega
theorem evMakeSlice_ok (hr : Rel B G w0 E S w) {t : TypeId} {l c sv : SV} {S' : St} {vl vc : Value} (h : evMakeSlice P S t l c = some (sv, S')) (hl : l.den E = some vl) (hc : c.den E = some vc) :
    Does B G w0 P E sv S' (Instr.makeSlice t vl vc) w := by
  unfold evMakeSlice at h
  split at h
  case h_2 => cases h
  rename_i e nl nc hu hnl hnc
  obtain ⟨k1, rfl⟩ := natOf_ok hnl hl
  obtain ⟨k2, rfl⟩ := natOf_ok hnc hc
  split at h
  · rename_i inf hi
    split at h
    · rename_i z hz
      cases hok : (Nat.ble nl nc && (Nat.ble nc 4611686018427387904 && Nat.ble (inf.bytes * nc) 281474976710656)) with
      | false => rw [hok] at h; cases h
      | true =>
        rw [hok] at h
        simp only [cond_true, Option.some.injEq, Prod.mk.injEq] at h
        obtain ⟨rfl, rfl⟩ := h
        simp only [Bool.and_eq_true] at hok
        have h1 := Nat.le_of_ble_eq_true hok.1
        have h2 := Nat.le_of_ble_eq_true hok.2.1
        have h3 := Nat.le_of_ble_eq_true hok.2.2
        have hsz : (P.info? e).map (·.size) = some inf.size := by rw [hi]; rfl
        have hzz : (P.info? e).bind (·.zero) = some z := by rw [hi]; exact hz
        obtain ⟨zz, hzz1, hzz2, hzz3⟩ : ∃ zz : Array Value, zz.toList = (bif Nat.beq (nc * inf.size) 0 then [] else z.cells.toList) ∧ (nc * inf.size = 0 → zz = #[]) ∧ (¬ nc * inf.size = 0 → zz = z.cells) := by
          by_cases h0 : nc * inf.size = 0
          · exact ⟨#[], by simp [h0], fun _ => rfl, fun h => absurd h0 h⟩
          · refine ⟨z.cells, ?_, fun h => absurd h h0, fun _ => rfl⟩
            have : Nat.beq (nc * inf.size) 0 = false := by rw [← Bool.not_eq_true]; exact fun e => h0 (Nat.eq_of_beq_eq_true e)
            simp [this]
        have hden : SV.denL E (zerosOf (bif Nat.beq (nc * inf.size) 0 then [] else z.cells.toList) (nc * inf.size)) = some ((Array.range (nc * inf.size)).map (fun i => zz[i % zz.size]!)).toList := by
          rw [← hzz1]; exact zerosOf_den zz _
        obtain ⟨F, g1, g2, g3, g4⟩ := newRow_ok (P := P) hr (e := e) hden
        simp only [Array.toArray_toList] at g4
        refine ⟨F, .slice (some ⟨w.heap.size, 0, none⟩) nl nc, _, g1, g3, by simp only [SV.den, g2, Cap.den], ?_⟩
        have w1 := wrap_small h2
        have w2 := wrap_small (n := nl) (by omega)
        have t1 : (decide ((nc : Int) < 0) || decide ((inf.bytes : Int) * (nc : Int) > 2 ^ 48)) = false := by
          have a1 : ((inf.bytes * nc : Nat) : Int) ≤ 281474976710656 := by omega
          rw [Int.natCast_mul] at a1
          rw [Bool.or_eq_false_iff, decide_eq_false_iff_not, decide_eq_false_iff_not]
          exact ⟨by omega, by omega⟩
        have t2 : ¬ ((nl : Int) < 0) := by omega
        have t3 : ¬ ((nl : Int) > (nc : Int)) := by omega
        simp only [Instr.makeSlice, Sem.run_bind, run_underlying hu, Result.andThen_ok, asInt, asIntOf, Sem.run_pure, typeInfo, run_program, hi, w1, w2, t1, Bool.false_or, t2, t3, decide_false, Bool.or_false, Bool.false_eq_true, if_false,
          run_askRoom, run_sizeOf' hsz, Int.toNat_natCast]
        by_cases h0 : nc * inf.size = 0
        · rw [if_pos h0]
          have := hzz2 h0; subst this
          simp only [Sem.run_bind, Sem.run_pure, Result.andThen_ok, g4]
        · rw [if_neg h0]
          have := hzz3 h0; subst this
          simp only [Sem.run_bind, run_zero' hzz, Sem.run_pure, Result.andThen_ok, g4]
    · cases h
  · cases h
end
end Go.Ev
