/- Deferred functions that do nothing where no panic is under way. -/
import Derived.Test.YtlpbimookmhjbaaGreatDoorEvMem
namespace Go.Ev

def kv (kn : List (Nat × Value)) : Operand → SV
  | .tmp t => match find t kn with
    | some v => .val v
    | none => .sym 0
  | .const v => .val v
  | _ => .sym 0

def isRecover (o : Oper) : Bool :=
  match o.op with
  | .call c => match c.callee with
    | .builtin .recover => c.args.isEmpty
    | _ => false
  | _ => false

def putK (nt : Nat) (dst : Option Tmp) (v : Value) (kn : List (Nat × Value)) : Option (List (Nat × Value)) :=
  match dst with
  | some d => bif Nat.blt d nt then some ((d, v) :: kn) else none
  | none => some kn

def qOps (P : Program) (nt : Nat) (ops : Array Oper) : List Nat → List (Nat × Value) → Option (List (Nat × Value))
  | [], kn => some kn
  | i :: r, kn => match ops[i]? with
    | none => qOps P nt ops r kn
    | some o => match o.guard with
      | some _ => none
      | none => match (bif isRecover o then some (.val .nilIface) else match o.op with
          | .assign x | .move x => (match kv kn x with
            | .val v => some (.val v)
            | _ => none)
          | _ => opConc P (kv kn) o) with
        | some (.val v) => match putK nt o.dst v kn with
          | some kn' => qOps P nt ops r kn'
          | none => none
        | _ => none

def qCode (P : Program) (nt : Nat) : Code → List (Nat × Value) → Option (List (Nat × Value))
  | .skip, kn => some kn
  | .region _ ops false, kn => qOps P nt ops (List.range ops.size) kn
  | .seq a b, kn => match qCode P nt a kn with
    | some kn' => qCode P nt b kn'
    | none => none
  | .cond c x y, kn => match kv kn c with
    | .val (.bool true) => qCode P nt x kn
    | .val (.bool false) => qCode P nt y kn
    | _ => none
  | _, _ => none

def quietD (P : Program) (f : Nat) : Bool := match P.funcs[f]? with
  | some fn => match fn.body with
    | some c => !(fn.name == "runtime.NumGoroutine") && (fn.results.toList.isEmpty && (match qCode P fn.ntmps c [] with
      | some _ => true
      | none => false))
    | none => false
  | none => false

structure KRel (nt : Nat) (kn : List (Nat × Value)) (a : Act) : Prop where
  size : nt ≤ a.tmps.size
  has : ∀ t v, find t kn = some v → a.tmps.getD t undef = v
  defers : a.defers = []

section
variable {P : Program} {nt : Nat}

theorem kv_ok {kn : List (Nat × Value)} {a : Act} (h : KRel nt kn a) {x : Operand} {v : Value} (hx : kv kn x = .val v) : a.eval x = v := by
  cases x with
  | tmp t =>
    simp only [kv] at hx
    split at hx
    · rename_i u hu; simp only [SV.val.injEq] at hx; subst hx; exact h.has _ _ hu
    · cases hx
  | const u => simp only [kv, SV.val.injEq] at hx; exact hx
  | global g => cases hx
  | func f => cases hx

theorem kv_conc {kn : List (Nat × Value)} {a : Act} (h : KRel nt kn a) {x : Operand} {v : Value} (hx : (kv kn x).conc = some v) : a.eval x = v := by
  cases e : kv kn x with
  | val u => rw [e] at hx; simp only [SV.conc, Option.some.injEq] at hx; subst hx; exact kv_ok h e
  | sym n => rw [e] at hx; cases hx
  | _ => cases x <;> simp only [kv] at e <;> (try split at e) <;> cases e

theorem putK_ok {kn kn' : List (Nat × Value)} {a : Act} (h : KRel nt kn a) {dst : Option Tmp} {v : Value} (hp : putK nt dst v kn = some kn') : KRel nt kn' (a.put dst v) := by
  unfold putK at hp
  split at hp
  · rename_i d
    cases e : Nat.blt d nt with
    | false => rw [e] at hp; cases hp
    | true =>
      rw [e] at hp
      simp only [cond_true, Option.some.injEq] at hp; subst hp
      have hd : d < nt := Nat.le_of_ble_eq_true e
      have hs := h.size
      refine ⟨by simpa [Act.put] using h.size, fun t u ht => ?_, by rw [put_defers]; exact h.defers⟩
      by_cases htd : t = d
      · subst htd
        rw [find_cons_self] at ht; cases ht
        simp [Act.put, Array.getD_eq_getD_getElem?, Nat.lt_of_lt_of_le hd hs]
      · rw [find_cons_ne htd] at ht
        have := h.has t u ht
        rw [← this]
        simp [Act.put, Array.getD_eq_getD_getElem?, Array.getElem?_setIfInBounds_ne (Ne.symm htd)]
  · simp only [Option.some.injEq] at hp; subst hp; exact h

theorem opConc_known {kn : List (Nat × Value)} {a : Act} (hk : KRel nt kn a) {o : Oper} {sv : SV} (h : opConc P (kv kn) o = some sv) :
    ∃ v, sv = .val v ∧ ∀ w, (execOp a.eval o).run P w = .ok (.value v) w := by
  unfold opConc at h
  cases hs : isSelect o.op with
  | true => rw [hs] at h; simp at h
  | false =>
    rw [hs] at h
    simp only [cond_false] at h
    cases hc : allConc (kv kn) o.op.operands.toList with
    | false => rw [hc] at h; simp at h
    | true =>
      rw [hc] at h
      simp only [cond_true] at h
      split at h
      · rename_i v hv
        simp only [Option.some.injEq] at h; subst h
        refine ⟨v, rfl, fun w => ?_⟩
        have : execOp a.eval o = execOp (evc (kv kn)) o := execOp_congr o (fun cs b e => by rw [e] at hs; simp [isSelect] at hs) fun x hx =>
          kv_conc hk (allConc_mem hc x (by simpa using hx))
        rw [this]
        exact pureRun_run hv w
      · cases h

theorem qOps_ok {ops : Array Oper} {cs : List Frame} (hrec : recoverD cs = none) {w : World} {Q : Exit → Act → List Frame → World → Prop} : ∀ (l : List Nat) (kn kn' : List (Nat × Value)) (a : Act),
    qOps P nt ops l kn = some kn' → KRel nt kn a → (∀ a', KRel nt kn' a' → Q .normal a' cs w) → wpOpsS P ops Q l a cs w
  | [], kn, kn', a, h, hk, hQ => by
    simp only [qOps, Option.some.injEq] at h; subst h
    exact hQ a hk
  | i :: r, kn, kn', a, h, hk, hQ => by
    simp only [qOps] at h
    simp only [wpOpsS]
    split at h
    · rename_i hi
      simp only [hi]
      exact qOps_ok hrec r kn kn' a h hk hQ
    · rename_i o hi
      simp only [hi]
      split at h
      · cases h
      · rename_i hg
        have hw : Region.wanted o (yielded ops a.tmps) = true := by simp [Region.wanted, hg]
        simp only [hw, if_true]
        split at h
        · rename_i v hv
          split at h
          · rename_i kn₂ hp
            have hk₂ := putK_ok hk hp
            cases hr : isRecover o with
            | true =>
              rw [hr] at hv
              simp only [cond_true, Option.some.injEq, SV.val.injEq] at hv
              subst hv
              have : (execOp a.eval o).run P w = .ok .recover w := by
                unfold isRecover at hr
                split at hr
                · rename_i c ho
                  split at hr
                  · rename_i hb
                    have : c.args = #[] := by simpa using hr
                    simp [execOp, ho, resolve, hb, this, invoke, builtin]
                  · cases hr
                · cases hr
              simp only [this, hrec]
              exact qOps_ok hrec r kn₂ kn' _ h hk₂ hQ
            | false =>
              rw [hr] at hv
              simp only [cond_false] at hv
              have key : (execOp a.eval o).run P w = .ok (.value v) w := by
                split at hv
                · rename_i x ho
                  split at hv
                  · rename_i u hu
                    simp only [Option.some.injEq, SV.val.injEq] at hv; subst hv
                    simp [execOp, ho, kv_ok hk hu]
                  · cases hv
                · rename_i x ho
                  split at hv
                  · rename_i u hu
                    simp only [Option.some.injEq, SV.val.injEq] at hv; subst hv
                    simp [execOp, ho, kv_ok hk hu]
                  · cases hv
                · obtain ⟨u, hu, hrun⟩ := opConc_known hk hv
                  simp only [SV.val.injEq] at hu; subst hu
                  exact hrun w
              simp only [key]
              exact qOps_ok hrec r kn₂ kn' _ h hk₂ hQ
          · cases h
        · cases h

theorem qCode_ok {cs : List Frame} (hrec : recoverD cs = none) {w : World} : ∀ (c : Code) (kn kn' : List (Nat × Value)) (a : Act) (Q : Exit → Act → List Frame → World → Prop),
    qCode P nt c kn = some kn' → KRel nt kn a → (∀ a', KRel nt kn' a' → Q .normal a' cs w) → c.wpS P Q a cs w := by
  intro c
  induction c with
  | skip =>
    intro kn kn' a Q h hk hQ
    simp only [qCode, Option.some.injEq] at h; subst h
    exact wpS_of_wp (wp_skip (hQ a hk))
  | region id ops d =>
    intro kn kn' a Q h hk hQ
    cases d with
    | true => cases h
    | false => exact wpS_region (qOps_ok hrec _ kn kn' a h hk hQ)
  | seq x y ihx ihy =>
    intro kn kn' a Q h hk hQ
    simp only [qCode] at h
    split at h
    · rename_i kn₂ h₂
      exact wpS_seq (ihx kn kn₂ a _ h₂ hk fun a' hk' => ihy kn₂ kn' a' Q h hk' hQ)
    · cases h
  | cond c x y ihx ihy =>
    intro kn kn' a Q h hk hQ
    simp only [qCode] at h
    split at h
    · rename_i hc; exact wpS_cond (kv_ok hk hc) (ihx kn kn' a Q h hk hQ)
    · rename_i hc; exact wpS_cond (kv_ok hk hc) (ihy kn kn' a Q h hk hQ)
    · cases h
  | _ => intro kn kn' a Q h; cases h

theorem quietD_ok {f : Nat} (h : quietD P f = true) : QuietD P f := by
  unfold quietD at h
  split at h
  · rename_i fn hf
    split at h
    · rename_i c hc
      simp only [Bool.and_eq_true] at h
      obtain ⟨hn, hr, hq⟩ := h
      have hn : ¬ fn.name = "runtime.NumGoroutine" := by simpa using hn
      split at hq
      · rename_i kn hkn
        refine ⟨fun args w => by simp [callFunc, hf, hc, hn], fun args w => callsD_of_wpS hf hc fun c₀ cs hm => ?_⟩
        refine qCode_ok (P := P) (nt := fn.ntmps) (cs := c₀ :: cs) (by simp [recoverD, hm]) c [] kn _ _ hkn ⟨by simp only [Array.size_append, Array.size_replicate]; omega, (fun t v h => by cases h), rfl⟩ fun a' hk => ?_
        refine ⟨hk.defers, .returning, by rw [← hm], .tuple #[], ?_, ⟨_, rfl⟩, rfl, rfl⟩
        have : fn.results = #[] := by simpa using hr
        simp [results, this]
      · cases hq
    · cases h
  · cases h
end
end Go.Ev
