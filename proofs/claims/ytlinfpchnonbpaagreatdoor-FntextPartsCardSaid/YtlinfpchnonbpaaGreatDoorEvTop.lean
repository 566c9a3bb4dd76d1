/- A call that the evaluator carries out, in every world. -/
import Derived.Test.YtlinfpchnonbpaaGreatDoorEvLoop4
import Derived.KernelRfl
namespace Go.Ev
open Go.RowKit (Below)
def entersOf (P : Program) (f : Nat) : Bool := match P.funcs[f]? with
  | some fn => match fn.body with
    | some _ => !(fn.name == "runtime.NumGoroutine")
    | none => false
  | none => false
theorem entersOf_ok {P : Program} {f : Nat} (h : entersOf P f = true) (args : Array Value) (w : World) : (callFunc f args).run P w = .ok (.enter f args) w := by
  unfold entersOf at h
  split at h
  · rename_i fn hf
    split at h
    · rename_i c hc
      have hn : ¬ fn.name = "runtime.NumGoroutine" := by simpa using h
      simp [callFunc, hf, hc, hn]
    · cases h
  · cases h
def cfg (P : Program) (G : Nat) (enters : Nat → Bool) (X : List (Nat × ExtOp) := []) : Cfg := { P := P, quietD := quietD P, pure := fun _ _ _ => none, op := evDo P X G, summ := fun _ _ _ => none, enters := enters }
theorem cfg_ok {P : Program} {B G : Nat} {w0 : Start} (hP : w0.P = P) {enters : Nat → Bool} (he : ∀ f, enters f = true → entersOf P f = true) {X : List (Nat × ExtOp)} (hX : ∀ p ∈ X, ExtAt P p.1 p.2) : CfgOK B G w0 P (cfg P G enters X) :=
  { prog := rfl
    pure := fun _ _ _ _ _ h => by cases h
    op := evDo_ok hX hP
    summ := fun _ _ _ _ _ h => by cases h
    quietD := fun _ h => quietD_ok h
    enters := fun f h args w => entersOf_ok (he f h) args w }
def none0 : St := { heap := [], next := 0, ncap := 0, lows := [], nsym := 0, sorts := [], pc := [], gs := [], ro := [], ra := [], facts := [] }
def env0 : Env := { ρ := fun _ => none, σ := fun _ => none, κ := fun _ => none }
theorem rel0 (P : Program) (w : World) : Rel w.heap.size 0 ⟨w, [], P⟩ env0 none0 w :=
  { heap := fun _ _ h => by cases h
    inj := fun _ _ _ _ _ h => by cases h
    low := fun _ _ _ h => by cases h
    next := Nat.zero_le _
    newρ := fun _ _ => rfl
    newσ := fun _ _ => rfl
    newκ := fun _ _ => rfl
    dom := fun _ _ h => by cases h
    own := fun _ _ _ h => by cases h
    base := Nat.le_refl _
    below := Below.refl _ _
    lows := fun _ _ h => by cases h
    sorts := fun _ _ h => by cases h
    pc := fun _ _ h => by cases h
    glob := fun _ h => by cases h
    pins := fun _ h => by cases h
    ro := fun _ _ h => by cases h
    ra := fun _ _ h => by cases h
    deeps := fun _ h => by cases h
    facts := fun _ h => by cases h
    lists := fun _ h => by cases h
    apart := fun _ h => by cases h }
def allVal (p : SV → Bool) : List Out → Bool
  | [] => true
  | o :: r => match o.kind with
    | .val v => !o.st.bad && (p v && allVal p r)
    | _ => false
theorem allVal_mem {p : SV → Bool} : ∀ {l : List Out}, allVal p l = true → ∀ o ∈ l, o.st.bad = false ∧ ∃ v, o.kind = .val v ∧ p v = true
  | [], _, o, ho => by cases ho
  | x :: r, h, o, ho => by
    simp only [allVal] at h
    split at h
    · rename_i v hv
      simp only [Bool.and_eq_true, Bool.not_eq_true'] at h
      cases ho with
      | head => exact ⟨h.1, v, hv, h.2.1⟩
      | tail _ ho => exact allVal_mem h.2.2 o ho
    · cases h
def isTrueS : SV → Bool
  | .val (.bool true) => true
  | _ => false
def endsTrue (C : Cfg) (n f : Nat) (args : List SV) (S : St) : Bool := match evaluate C n (.call f args S) with
  | some outs => allVal isTrueS outs
  | none => false
theorem calls_true {P : Program} {enters : Nat → Bool} {n f : Nat} (hm : P.follows .mixedOrders = true) (he : ∀ f, enters f = true → entersOf P f = true)
    {args : List Value} (h : endsTrue (cfg P 0 enters) n f (args.map .val) none0 = true) (w : World) :
    Calls P f args.toArray w fun e w' => e = .returned (.bool true) ∧ Below w.heap.size w w' := by
  unfold endsTrue at h
  split at h
  · rename_i outs ho
    refine evaluate_ok (cfg_ok (w0 := ⟨w, [], P⟩) rfl he (fun _ h => by cases h)) hm n _ _ ho env0 args w _ (rel0 P w) (denL_vals args) (fun o hmem F sv v w' h1 h2 h3 h4 => ?_) (fun o hmem F sv v w' h1 h2 h3 h4 => ?_) (fun o hmem hb => by rw [(allVal_mem h o hmem).1] at hb; cases hb)
    case refine_2 => obtain ⟨_, u, hu, _⟩ := allVal_mem h o hmem; rw [h3] at hu; cases hu
    obtain ⟨_, u, hu, hp⟩ := allVal_mem h o hmem
    rw [h3] at hu; cases hu
    unfold isTrueS at hp
    split at hp
    · simp only [SV.den, Option.some.injEq] at h4; subst h4
      exact ⟨rfl, h2.below⟩
    · cases hp
  · cases h
end Go.Ev
