/- Slices: cut, counted, made, appended to, copied. -/
import Derived.Test.YtlpbimookmhjbaaGreatDoorEvOps
namespace Go.Ev
open Go.RowKit (Below)

section
variable {B G : Nat} {w0 : Start} {E : Env} {S : St} {w : World} {P : Program}

def valO : Option SV → Option (Option Value)
  | none => some none
  | some x => match x.conc with
    | some v => some (some v)
    | none => none

theorem valO_ok {x : Option SV} {v : Option Value} (h : valO x = some v) {u : Option Value} (hu : ∀ y, x = some y → ∃ z, u = some z ∧ y.den E = some z) (hn : x = none → u = none) : u = v := by
  cases x with
  | none => simp only [valO, Option.some.injEq] at h; rw [hn rfl, ← h]
  | some y =>
    simp only [valO] at h
    split at h
    · rename_i z hz
      simp only [Option.some.injEq] at h
      obtain ⟨t, rfl, ht⟩ := hu y rfl
      rw [conc_den (E := E) _ _ hz] at ht
      rw [← h, ← ht]
    · cases h

def capLow (S : St) : Cap → Option Nat
  | .k n => some n
  | .v i => find i S.lows

theorem capLow_ok (hr : ERel E S) {c : Cap} {n : Nat} (h : capLow S c = some n) : ∃ m, c.den E = some m ∧ n ≤ m ∧ (∀ k, c = .k k → m = n) := by
  cases c with
  | k k => simp only [capLow, Option.some.injEq] at h; subst h; exact ⟨k, rfl, Nat.le_refl _, fun j hj => by cases hj; rfl⟩
  | v i =>
    obtain ⟨m, h1, h2⟩ := hr.lows i n h
    exact ⟨m, h1, h2, fun k hk => by cases hk⟩

/-- A slice cut: 'x[lo:hi]', 'x[lo:hi:mx]'. -/
def evSlice (P : Program) (S : St) (t : TypeId) (x : SV) (lo hi mx : Option SV) : Option SV :=
  match valO lo, valO hi, valO mx, P.underlying t with
  | some lo, some hi, some mx, some (.slice e) => match x, (P.info? e).map (·.size) with
    | .slice id off len (.k c), some sz => match pureRun P (Instr.sliceBounds true len c lo hi mx) with
      | some (l, h, m) => some (.slice id (bif Nat.beq m l then off else off + l * sz) (h - l) (.k (m - l)))
      | none => none
    | .slice id off len (.v i), some _ => match lo, mx, find i S.lows with
      | none, none, some low => match hi with
        | none => some (.slice id off len (.v i))
        | some (.int _ (.ofNat h)) => bif Nat.ble h low then some (.slice id off h (.v i)) else none
        | _ => none
      | _, _, _ => none
    | .val (.slice none len c), some _ => match pureRun P (Instr.sliceBounds true len c lo hi mx) with
      | some (l, h, m) => some (.val (.slice none (h - l) (m - l)))
      | none => none
    | _, _ => none
  | some lo, some hi, some mx, some (.array n e) => match norm S x, (P.info? e).map (·.size) with
    | .ptr id off, some sz => match pureRun P (Instr.sliceBounds false n n lo hi mx) with
      | some (l, h, m) => some (.slice id (bif Nat.beq m l then off else off + l * sz) (h - l) (.k (m - l)))
      | none => none
    | _, _ => none
  | _, _, _, _ => none

theorem evSlice_ok (hr : ERel E S) {t : TypeId} {x sv : SV} {lo hi mx : Option SV} {vx : Value} {vlo vhi vmx : Option Value} (h : evSlice P S t x lo hi mx = some sv) (hx : x.den E = some vx)
    (h1 : ∀ y, lo = some y → ∃ z, vlo = some z ∧ y.den E = some z) (h1' : lo = none → vlo = none)
    (h2 : ∀ y, hi = some y → ∃ z, vhi = some z ∧ y.den E = some z) (h2' : hi = none → vhi = none)
    (h3 : ∀ y, mx = some y → ∃ z, vmx = some z ∧ y.den E = some z) (h3' : mx = none → vmx = none) : Quiet P E sv (Instr.sliceAt t vx vlo vhi vmx) := by
  unfold evSlice at h
  split at h
  · rename_i lo' hi' mx' e hlo hhi hmx hu
    have e1 := valO_ok hlo h1 h1'; have e2 := valO_ok hhi h2 h2'; have e3 := valO_ok hmx h3 h3'
    subst e1 e2 e3
    split at h
    · rename_i id off len c sz hsz
      split at h
      · rename_i l h' m hb
        simp only [Option.some.injEq] at h; subst h
        obtain ⟨b, n, hb1, hb2, rfl⟩ := slice_den hx
        simp only [Cap.den, Option.some.injEq] at hb2; subst hb2
        refine .mk (v := .slice (some ⟨b, bif Nat.beq m l then off else off + l * sz, none⟩) (h' - l) (m - l)) (by simp only [SV.den, hb1, Cap.den]) fun w => ?_
        have hrun := pureRun_run hb w
        simp only [Instr.sliceAt, Instr.slice, Sem.run_bind, run_underlying hu, Result.andThen_ok, hrun, run_sizeOf' hsz, Sem.run_pure]
        by_cases hml : m = l
        · have : Nat.beq m l = true := Nat.beq_eq.mpr hml
          simp [hml]
        · have : Nat.beq m l = false := by rw [← Bool.not_eq_true]; exact fun e => hml (Nat.eq_of_beq_eq_true e)
          simp [hml, this, add_at]
      · cases h
    · rename_i id off len i sz hsz
      split at h
      · rename_i low hlow
        obtain ⟨b, n, hb1, hb2, rfl⟩ := slice_den hx
        obtain ⟨m', k1, k2⟩ := hr.lows i low hlow
        simp only [Cap.den] at hb2
        rw [k1] at hb2; cases hb2
        have fin : ∀ h' : Nat, (∀ w : World, (Instr.sliceBounds true len n none vhi none).run P w = .ok (0, h', n) w) → Quiet P E (.slice id off h' (.v i)) (Instr.sliceAt t (.slice (some ⟨b, off, none⟩) len n) none vhi none) := fun h' hrun => by
          refine .mk (v := .slice (some ⟨b, off, none⟩) h' n) (by simp only [SV.den, hb1, Cap.den, k1]) fun w => ?_
          simp only [Instr.sliceAt, Instr.slice, Sem.run_bind, run_underlying hu, Result.andThen_ok, hrun, run_sizeOf' hsz, Sem.run_pure]
          by_cases hml : n = 0
          · simp [hml]
          · simp [hml, add_at]
        split at h
        · simp only [Option.some.injEq] at h; subst h
          exact fin len (fun w => by simp [Instr.sliceBounds])
        · rename_i k h'
          cases hle : Nat.ble h' low with
          | false => rw [hle] at h; cases h
          | true =>
            rw [hle] at h
            simp only [cond_true, Option.some.injEq] at h; subst h
            have hle := Nat.le_of_ble_eq_true hle
            have hc : (0 : Int) ≤ Int.ofNat h' ∧ Int.ofNat h' ≤ (n : Int) := ⟨by simp, by simp; omega⟩
            refine fin h' fun w => ?_
            simp only [Instr.sliceBounds, Instr.sliceBound, asIntOf, Sem.run_bind, Sem.run_pure, Result.andThen_ok]
            rw [if_pos hc]
            simp
        · cases h
      · cases h
    · rename_i len c sz hsz
      split at h
      · rename_i l h' m hb
        simp only [Option.some.injEq] at h; subst h
        simp only [SV.den, Option.some.injEq] at hx; subst hx
        refine .mk (v := .slice none (h' - l) (m - l)) (by simp only [SV.den]) fun w => ?_
        have hrun := pureRun_run hb w
        simp only [Instr.sliceAt, Instr.slice, Sem.run_bind, run_underlying hu, Result.andThen_ok, hrun, run_sizeOf' hsz, Sem.run_pure]
        simp
      · cases h
    · cases h
  · rename_i lo' hi' mx' n e hlo hhi hmx hu
    have e1 := valO_ok hlo h1 h1'; have e2 := valO_ok hhi h2 h2'; have e3 := valO_ok hmx h3 h3'
    subst e1 e2 e3
    split at h
    · rename_i id off sz hp hsz
      split at h
      · rename_i l h' m hb
        simp only [Option.some.injEq] at h; subst h
        have hnx := norm_den hr hx
        rw [hp] at hnx
        obtain ⟨b, hb1, rfl⟩ := ptr_den hnx
        refine .mk (v := .slice (some ⟨b, bif Nat.beq m l then off else off + l * sz, none⟩) (h' - l) (m - l)) (by simp only [SV.den, hb1, Cap.den]) fun w => ?_
        have hrun := pureRun_run hb w
        simp only [Instr.sliceAt, Sem.run_bind, run_underlying hu, Result.andThen_ok, Instr.sureAddr, hrun, run_sizeOf' hsz, Sem.run_pure]
        by_cases hml : m = l
        · have : Nat.beq m l = true := Nat.beq_eq.mpr hml
          simp [hml]
        · have : Nat.beq m l = false := by rw [← Bool.not_eq_true]; exact fun e => hml (Nat.eq_of_beq_eq_true e)
          simp [hml, this, add_at]
      · cases h
    · cases h
  · cases h

/-! ### What a slice or a string holds, as cells -/
def bytesL (s : ByteArray) : List Value := s.data.toList.map fun b => .int .u8 b.toNat

/-- The cells of what is appended or copied, 'n' elements of 'sz' cells. -/
def srcCells (S : St) (sz : Nat) : SV → Option (Nat × List SV)
  | .slice id off len _ => match find id S.heap with
    | some (.row cs _ _ _) => bif Nat.ble (off + len * sz) cs.length then some (len, (cs.drop off).take (len * sz)) else none
    | _ => none
  | .val (.slice none len _) => bif Nat.beq len 0 then some (0, []) else none
  | .val (.string s) => bif Nat.beq sz 1 then some (s.size, (bytesL s).map .val) else none
  | _ => none

theorem srcCells_ok (hr : Rel B G w0 E S w) {sz : Nat} {x : SV} {n : Nat} {cs : List SV} {vx : Value} (h : srcCells S sz x = some (n, cs)) (hx : x.den E = some vx) :
    ∃ l, SV.denL E cs = some l ∧ l.length = n * sz ∧ (∀ w' : World, (Builtin.lenOf vx).run P w' = .ok n w') ∧ (∀ w' : World, w'.heap = w.heap → (Builtin.firstCells sz n vx).run P w' = .ok l.toArray w') := by
  unfold srcCells at h
  split at h
  · rename_i id off len c
    split at h
    · rename_i cells e wr ext hf
      cases hle : Nat.ble (off + len * sz) cells.length with
      | false => rw [hle] at h; cases h
      | true =>
        have hle' := Nat.le_of_ble_eq_true hle
        rw [hle] at h
        simp only [cond_true, Option.some.injEq, Prod.mk.injEq] at h
        obtain ⟨rfl, rfl⟩ := h
        obtain ⟨b, m, hb, -, rfl⟩ := slice_den hx
        obtain ⟨l, r, fz, hh, hl, -, -, -⟩ := row_at hr hf hb
        have hlen := denL_length hl
        refine ⟨(l.drop off).take (len * sz), denL_take _ (denL_drop off hl), by simp; omega, fun w' => by simp [Builtin.lenOf], fun w' hw => ?_⟩
        have hrun := loads_run (P := P) (w := w') (by rw [hw]; exact hh) (off := off) (n := len * sz) (by simp; omega)
        have e2 : ((l ++ r).drop off).take (len * sz) = (l.drop off).take (len * sz) := by
          rw [List.drop_append_of_le_length (by omega), List.take_append_of_le_length (by simp; omega)]
        rw [e2] at hrun
        simp only [Builtin.firstCells, hrun]
    · cases h
  · rename_i len c
    cases h0 : Nat.beq len 0 with
    | false => rw [h0] at h; cases h
    | true =>
      have h0' := Nat.eq_of_beq_eq_true h0
      rw [h0] at h
      simp only [cond_true, Option.some.injEq, Prod.mk.injEq] at h
      obtain ⟨rfl, rfl⟩ := h
      simp only [SV.den, Option.some.injEq] at hx; subst hx
      exact ⟨[], rfl, by simp, fun w' => by simp [Builtin.lenOf, h0'], fun w' _ => by simp [Builtin.firstCells]⟩
  · rename_i s
    cases h0 : Nat.beq sz 1 with
    | false => rw [h0] at h; cases h
    | true =>
      have h0' := Nat.eq_of_beq_eq_true h0
      rw [h0] at h
      simp only [cond_true, Option.some.injEq, Prod.mk.injEq] at h
      obtain ⟨rfl, rfl⟩ := h
      simp only [SV.den, Option.some.injEq] at hx; subst hx
      have hs : s.data.size = s.size := rfl
      refine ⟨bytesL s, denL_vals _, by simp [bytesL, h0', hs], fun w' => by simp [Builtin.lenOf], fun w' _ => ?_⟩
      simp only [Builtin.firstCells, Sem.run_pure, bytesL]
      congr 1
      apply Array.ext'
      simp
  · cases h

/-- The environment with one capacity more. -/
def Env.cap (E : Env) (i n : Nat) : Env := { E with κ := fun j => bif Nat.beq j i then some n else E.κ j }
theorem Env.cap_self (E : Env) (i n : Nat) : (E.cap i n).κ i = some n := by simp [Env.cap]
theorem Env.cap_ne (E : Env) {i j : Nat} (n : Nat) (h : j ≠ i) : (E.cap i n).κ j = E.κ j := by
  have : Nat.beq j i = false := by rw [← Bool.not_eq_true]; exact fun e => h (Nat.eq_of_beq_eq_true e)
  simp [Env.cap, this]
theorem Env.cap_le (E : Env) {i : Nat} (n : Nat) (h : E.κ i = none) : E.le (E.cap i n) :=
  ⟨fun _ _ h => h, fun _ _ h => h, fun j c hj => by
    by_cases e : j = i
    · subst e; rw [h] at hj; cases hj
    · rw [Env.cap_ne E n e]; exact hj⟩

def newCapS (S : St) (low : Nat) : St := { S with ncap := S.ncap + 1, lows := (S.ncap, low) :: S.lows }

theorem newCap_ok (hr : Rel B G w0 E S w) {low n : Nat} (hn : low ≤ n) : E.le (E.cap S.ncap n) ∧ Rel B G w0 (E.cap S.ncap n) (newCapS S low) w := by
  have hle := E.cap_le n (hr.newκ S.ncap (Nat.le_refl _))
  refine ⟨hle, ?_⟩
  exact
  { hr with
    heap := fun id o hi => by obtain ⟨b, x, h1, h2, h3⟩ := hr.heap id o hi; exact ⟨b, x, h1, h2, h3.mono hle⟩
    newκ := fun i hi => by
      have hi : S.ncap + 1 ≤ i := hi
      rw [Env.cap_ne E n (by omega)]; exact hr.newκ i (by omega)
    lows := fun i m hi => by
      by_cases e : i = S.ncap
      · subst e
        simp only [newCapS] at hi
        rw [find_cons_self] at hi; cases hi
        exact ⟨n, Env.cap_self E _ n, hn⟩
      · simp only [newCapS] at hi
        rw [find_cons_ne e] at hi
        obtain ⟨k, h1, h2⟩ := hr.lows i m hi
        exact ⟨k, hle.κ _ _ h1, h2⟩
    facts := fun q hq => by obtain ⟨vs, v, h1, h2, h3⟩ := hr.facts q hq; exact ⟨vs, v, SV.denL_mono hle _ _ h1, SV.den_mono hle _ _ h2, h3⟩
    lists := hr.listsKeep hle fun _ _ _ _ _ _ _ _ => rfl }

/-- A new row of unknown room, the first cells of which are told. -/
def newGrownS (S : St) (e : TypeId) (cs : List SV) (sz low : Nat) : St :=
  { S with ncap := S.ncap + 1, lows := (S.ncap, low) :: S.lows, heap := (S.next, .row cs e true (some (S.ncap, sz))) :: S.heap, next := S.next + 1 }

theorem newGrown_ok (hr : Rel B G w0 E S w) {e : TypeId} {cs : List SV} {l : List Value} (hl : SV.denL E cs = some l) {low n sz : Nat} (hn : low ≤ n) (r : List Value) (hlen : (l ++ r).length = n * sz)
    {w' : World} (hw : w'.heap = w.heap.push (.cells (l ++ r).toArray e)) (ht : w'.tape = w.tape) (hos : w'.os = w.os) (hp : w'.output = w.output) :
    ∃ F, E.le F ∧ F.ρ S.next = some w.heap.size ∧ F.κ S.ncap = some n ∧ Rel B G w0 F (newGrownS S e cs sz low) w' := by
  obtain ⟨k1, k2⟩ := newCap_ok hr hn
  have hle := (E.cap S.ncap n).place_le w.heap.size (k2.newρ S.next (Nat.le_refl _))
  obtain ⟨h1, h2⟩ := k2.pushed (o := .row cs e true (some (S.ncap, sz))) (x := .cells (l ++ r).toArray e) (w' := w') hw ht hos hp
    ⟨l, r, n, (0, 0), SV.denL_mono (Env.le_trans k1 hle) _ _ hl, hle.κ _ _ (Env.cap_self E _ n), hlen, rfl, fun _ i _ => by simp⟩
  exact ⟨_, Env.le_trans k1 h1, Env.place_self _ _ _, hle.κ _ _ (Env.cap_self E _ n), h2⟩
end
end Go.Ev
