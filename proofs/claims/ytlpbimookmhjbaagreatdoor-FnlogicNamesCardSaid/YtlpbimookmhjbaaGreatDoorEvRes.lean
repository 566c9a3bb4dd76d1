/- What a function hands back, out of variables too. -/
import Derived.Test.YtlpbimookmhjbaaGreatDoorEvDo
namespace Go.Ev
open Go.RowKit (Below)

def resOne (P : Program) (ts : List SV) (S : St) : ResultVar → Option SV
  | .tmp t => some (ts.getD t (.val undef))
  | .cell a t => match norm S (ts.getD a (.val undef)) with
    | .ptr id off => evLoad P S t (.ptr id off)
    | _ => none

def resList (P : Program) (ts : List SV) (S : St) : List ResultVar → Option (List SV)
  | [] => some []
  | r :: l => match resOne P ts S r, resList P ts S l with
    | some x, some y => some (x :: y)
    | _, _ => none

def resC (P : Program) (rs : List ResultVar) (ts : List SV) (S : St) : Option SV :=
  match resList P ts S rs with
  | some [x] => some x
  | some [] => some (.val (.tuple #[]))
  | some l => some (.tuple l)
  | none => none

section
variable {B G : Nat} {w0 : Start} {E : Env} {S : St} {w : World} {P : Program}

def resSem (tmps : Array Value) : ResultVar → Sem Value
  | .tmp t => pure (tmps.getD t undef)
  | .cell a t => do loadVar t (← asAddr (tmps.getD a undef))

theorem results_eq (fn : Func) (tmps : Array Value) : results fn tmps = (fn.results.mapM (resSem tmps) >>= fun vs => pure (if h : vs.size = 1 then vs[0] else .tuple vs)) := by
  unfold results
  congr 2

theorem resOne_ok (hr : Rel B G w0 E S w) {ts : List SV} {tmps : Array Value} (ht : SV.denL E ts = some tmps.toList) {r : ResultVar} {x : SV} (h : resOne P ts S r = some x) :
    ∃ v, x.den E = some v ∧ (resSem tmps r).run P w = .ok v w := by
  cases r with
  | tmp t =>
    simp only [resOne, Option.some.injEq] at h; subst h
    exact ⟨_, getD_den ht t, by simp [resSem]⟩
  | cell a t =>
    simp only [resOne] at h
    split at h
    · rename_i id off hn
      have hd := norm_den hr.env (getD_den ht a)
      rw [hn] at hd
      obtain ⟨v, h1, h2⟩ := evLoad_ok (P := P) hr h hd
      obtain ⟨b, hb, hp⟩ := ptr_den hd
      refine ⟨v, h1, ?_⟩
      rw [hp] at h2
      simp only [resSem, hp]
      simpa [Instr.loadAt, Instr.sureAddr, asAddr] using h2
    · cases h

theorem resList_ok (hr : Rel B G w0 E S w) {ts : List SV} {tmps : Array Value} (ht : SV.denL E ts = some tmps.toList) : ∀ {l : List ResultVar} {xs : List SV}, resList P ts S l = some xs →
    ∃ vs, SV.denL E xs = some vs ∧ (l.mapM (resSem tmps)).run P w = .ok vs w
  | [], xs, h => by
    simp only [resList, Option.some.injEq] at h; subst h
    exact ⟨[], rfl, rfl⟩
  | r :: l, xs, h => by
    simp only [resList] at h
    split at h
    · rename_i x y hx hy
      simp only [Option.some.injEq] at h; subst h
      obtain ⟨v, h1, h2⟩ := resOne_ok (P := P) hr ht hx
      obtain ⟨vs, h3, h4⟩ := resList_ok hr ht hy
      refine ⟨v :: vs, denL_mk h1 h3, ?_⟩
      simp only [List.mapM_cons, Sem.run_bind, h2, Result.andThen_ok, h4, Sem.run_pure]
    · cases h

theorem resC_ok : ResOK B G w0 P (resC P) := by
  intro fn ts S sv h E tmps w hr ht
  unfold resC at h
  have go : ∀ xs, resList P ts S fn.results.toList = some xs → ∃ vs : List Value, SV.denL E xs = some vs ∧ (results fn tmps).run P w = .ok (if h : vs.toArray.size = 1 then vs.toArray[0] else .tuple vs.toArray) w := fun xs hxs => by
    obtain ⟨vs, h1, h2⟩ := resList_ok (P := P) hr ht hxs
    refine ⟨vs, h1, ?_⟩
    have hm : (fn.results.mapM (resSem tmps)).run P w = .ok vs.toArray w := by
      rw [← Array.toArray_toList (xs := fn.results), List.mapM_toArray, Sem.run_map, h2]; rfl
    rw [results_eq, Sem.run_bind, hm]
    rfl
  split at h
  · rename_i x hx
    simp only [Option.some.injEq] at h; subst h
    obtain ⟨vs, h1, h2⟩ := go _ hx
    obtain ⟨v, l, hv, hl, rfl⟩ := denL_cons h1
    simp only [SV.denL, Option.some.injEq] at hl; subst hl
    exact ⟨v, hv, by rw [h2]; rfl⟩
  · rename_i hx
    simp only [Option.some.injEq] at h; subst h
    obtain ⟨vs, h1, h2⟩ := go _ hx
    simp only [SV.denL, Option.some.injEq] at h1; subst h1
    exact ⟨.tuple #[], by simp only [SV.den], by rw [h2]; rfl⟩
  · rename_i l hn1 hn0 hx
    simp only [Option.some.injEq] at h; subst h
    obtain ⟨vs, h1, h2⟩ := go _ hx
    refine ⟨.tuple vs.toArray, by simp only [SV.den, h1], ?_⟩
    rw [h2]
    have hlen := denL_length h1
    have : ¬ vs.toArray.size = 1 := by
      intro e
      simp only [List.size_toArray] at e
      rw [e] at hlen
      match l, hlen with
      | [x], _ => exact hn1 x rfl
    rw [dif_neg this]
  · cases h
end
end Go.Ev
