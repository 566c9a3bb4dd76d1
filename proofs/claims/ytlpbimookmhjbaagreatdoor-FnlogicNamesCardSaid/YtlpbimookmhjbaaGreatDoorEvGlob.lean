/- What lies before the call and is only read: package-level slices. -/
import Derived.Test.YtlpbimookmhjbaaGreatDoorEvKey
namespace Go.Ev
open Go.RowKit (Below)

def Env.unk (E : Env) (n : Nat) (v : Value) : Env := { E with σ := fun i => bif Nat.beq i n then some v else E.σ i }
theorem Env.unk_self (E : Env) (n : Nat) (v : Value) : (E.unk n v).σ n = some v := by simp [Env.unk]
theorem Env.unk_ne (E : Env) {i n : Nat} (v : Value) (h : i ≠ n) : (E.unk n v).σ i = E.σ i := by
  have : Nat.beq i n = false := by rw [← Bool.not_eq_true]; exact fun e => h (Nat.eq_of_beq_eq_true e)
  simp [Env.unk, this]
theorem Env.unk_le (E : Env) {n : Nat} (v : Value) (h : E.σ n = none) : E.le (E.unk n v) :=
  ⟨fun _ _ h => h, fun i c hi => by
    by_cases e : i = n
    · subst e; rw [h] at hi; cases hi
    · rw [Env.unk_ne E v e]; exact hi, fun _ _ h => h⟩

section
variable {B G : Nat} {w0 : Start} {E : Env} {S : St} {w : World} {P : Program}

theorem Rel.newSym (h : Rel B G w0 E S w) (v : Value) : E.le (E.unk S.nsym v) ∧ Rel B G w0 (E.unk S.nsym v) { S with nsym := S.nsym + 1 } w := by
  have hle := E.unk_le v (h.newσ S.nsym (Nat.le_refl _))
  refine ⟨hle, ?_⟩
  exact
  { h with
    heap := fun id o hi => by obtain ⟨b, x, h1, h2, h3⟩ := h.heap id o hi; exact ⟨b, x, h1, h2, h3.mono hle⟩
    newσ := fun i hi => by
      have hi : S.nsym + 1 ≤ i := hi
      rw [Env.unk_ne E v (by omega)]; exact h.newσ i (by omega)
    sorts := fun i s hi => by obtain ⟨u, h1, h2⟩ := h.sorts i s hi; exact ⟨u, hle.σ _ _ h1, h2⟩
    pc := fun i b hi => hle.σ _ _ (h.pc i b hi)
    pins := fun p hp => hle.σ _ _ (h.pins p hp)
    ro := fun i xs hi => by obtain ⟨a, cap, h1, h2⟩ := h.ro i xs hi; exact ⟨a, cap, hle.σ _ _ h1, h2⟩
    ra := fun i u hi => by obtain ⟨a, h1, h2⟩ := h.ra i u hi; exact ⟨a, hle.σ _ _ h1, h2⟩
    deeps := fun d hd => by obtain ⟨v, x, h1, h2, h3⟩ := h.deeps d hd; exact ⟨v, x, hle.σ _ _ h1, hle.σ _ _ h2, h3⟩
    facts := fun q hq => by obtain ⟨vs, u, h1, h2, h3⟩ := h.facts q hq; exact ⟨vs, u, SV.denL_mono hle _ _ h1, SV.den_mono hle _ _ h2, h3⟩
    lists := h.listsKeep hle fun _ _ _ _ _ _ _ _ => rfl
    apart := fun l hl ho v hv c hc => by
      obtain ⟨h1, h2⟩ := h.apart l hl ho v (h.listAt hl hle hv) c hc
      exact ⟨h1, fun m hm hmo u hu => h2 m hm hmo u (h.listAt hm hle hu)⟩ }

theorem addr_add_block (a : Addr) (n : Nat) : (a.add n).block = a.block := by unfold Addr.add; split <;> rfl

def evRoAddr (P : Program) (S : St) (t : TypeId) (x i : SV) : Option (SV × St) :=
  match x, natOf i, P.underlying t with
  | .sym n, some k, some (.slice e) => match find n S.ro, (P.info? e).map (·.size) with
    | some xs, some 1 => match xs[k]? with
      | some v => some (.sym S.nsym, { S with nsym := S.nsym + 1, ra := (S.nsym, v) :: S.ra })
      | none => none
    | _, _ => none
  | _, _, _ => none

theorem evRoAddr_ok (hr : Rel B G w0 E S w) {t : TypeId} {x i sv : SV} {S' : St} {vx vi : Value} (h : evRoAddr P S t x i = some (sv, S')) (hx : x.den E = some vx) (hi : i.den E = some vi) :
    Does B G w0 P E sv S' (Instr.indexAt t vx vi) w := by
  unfold evRoAddr at h
  split at h
  · rename_i n k e hk hu
    obtain ⟨ki, rfl⟩ := natOf_ok hk hi
    split at h
    · rename_i xs hxs hsz
      split at h
      · rename_i v hv
        simp only [Option.some.injEq, Prod.mk.injEq] at h
        obtain ⟨rfl, rfl⟩ := h
        obtain ⟨a, cap, h1, h2⟩ := hr.ro n xs hxs
        obtain ⟨h3, h4⟩ := h2 k v hv
        simp only [SV.den] at hx
        rw [h1] at hx; cases hx
        obtain ⟨hle, hrel⟩ := hr.newSym (.pointer (some (a.add k)))
        refine ⟨_, .pointer (some (a.add k)), w, hle, ?_, by simp only [SV.den]; exact Env.unk_self _ _ _, ?_⟩
        · exact
          { hrel with
            ra := fun j u hj => by
              by_cases e : j = S.nsym
              · subst e
                rw [find_cons_self] at hj; cases hj
                exact ⟨a.add k, Env.unk_self _ _ _, h3, by rw [addr_add_block]; exact h4⟩
              · rw [find_cons_ne e] at hj
                exact hrel.ra j u hj }
        · have hlt : k < xs.length := by
            rcases Nat.lt_or_ge k xs.length with h' | h'
            · exact h'
            · simp [List.getElem?_eq_none h'] at hv
          have hb : (0 : Int) ≤ (k : Int) ∧ (k : Int) < (xs.length : Int) := ⟨by omega, by omega⟩
          simp only [Instr.indexAt, asIntOf, Sem.run_bind, Sem.run_pure, Result.andThen_ok, run_underlying hu]
          simp [hb, run_sizeOf' hsz]
      · cases h
    · cases h
  · cases h

def evRoLoad (P : Program) (S : St) (t : TypeId) (a : SV) : Option SV :=
  match a with
  | .sym n => match find n S.ra, P.underlying t with
    | some v, some d => bif isAggD d then none else some (.val v)
    | _, _ => none
  | _ => none

theorem evRoLoad_ok (hr : Rel B G w0 E S w) {t : TypeId} {a sv : SV} {va : Value} (h : evRoLoad P S t a = some sv) (ha : a.den E = some va) :
    ∃ v, sv.den E = some v ∧ (Instr.loadAt t va).run P w = .ok v w := by
  unfold evRoLoad at h
  split at h
  · rename_i n
    split at h
    · rename_i v d hv hd
      cases hagg : isAggD d with
      | true => rw [hagg] at h; cases h
      | false =>
        rw [hagg] at h
        simp only [cond_false, Option.some.injEq] at h; subst h
        obtain ⟨a, h1, h2, h3⟩ := hr.ra n v hv
        simp only [SV.den] at ha
        rw [h1] at ha; cases ha
        refine ⟨v, by simp only [SV.den], ?_⟩
        have hc : w.cell? a = some v := by rw [hr.below.cell h3]; exact h2
        simp only [Instr.loadAt, Instr.sureAddr, loadVar, Sem.run_bind, Sem.run_pure, Result.andThen_ok, run_isAgg' hd, hagg, Bool.false_eq_true, if_false, run_load, hc]
    · cases h
  · cases h

def evRoLen (P : Program) (S : St) (t : TypeId) (x : SV) : Option SV :=
  match x, P.underlying t with
  | .sym n, some (.slice _) => match find n S.ro with
    | some xs => some (.val (goInt xs.length))
    | none => none
  | _, _ => none

theorem evRoLen_ok (hr : Rel B G w0 E S w) {t ty : TypeId} {x sv : SV} {vx : Value} (h : evRoLen P S t x = some sv) (hx : x.den E = some vx) : Quiet P E sv (Builtin.len_ #[t] ty #[vx]) := by
  unfold evRoLen at h
  split at h
  · rename_i n e hu
    split at h
    · rename_i xs hxs
      simp only [Option.some.injEq] at h; subst h
      obtain ⟨a, cap, h1, -⟩ := hr.ro n xs hxs
      simp only [SV.den] at hx
      rw [h1] at hx; cases hx
      exact .mk (v := goInt xs.length) (by simp only [SV.den]) fun w => by simp [Builtin.len_, run_underlying hu]
    · cases h
  · cases h
end
end Go.Ev
