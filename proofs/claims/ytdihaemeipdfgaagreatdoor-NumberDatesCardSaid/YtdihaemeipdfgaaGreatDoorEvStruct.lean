/- A struct of four one-cell fields among the arguments. -/
import Derived.ProofKit
import Derived.OpenShut
import Derived.Lib.SmallJoins
namespace Go.Ev
open Go.Deep
def fields4 (P : Program) (t a b c d : TypeId) : Bool := match P.underlying t with
  | some (.struct fs) => (fs.toList.map (·.type) == [a, b, c, d]) && oneCellFields P fs
  | _ => false
theorem struct4_of {P : Program} {t a b c d : TypeId} (h : fields4 P t a b c d = true) : ∃ f0 f1 f2 f3 : Field, P.underlying t = some (.struct #[f0, f1, f2, f3]) ∧ oneCellFields P #[f0, f1, f2, f3] = true ∧ f0.type = a ∧ f1.type = b ∧ f2.type = c ∧ f3.type = d := by
  unfold fields4 at h
  split at h
  · rename_i fs hf
    simp only [Bool.and_eq_true, beq_iff_eq] at h
    obtain ⟨h1', h2⟩ := h
    obtain ⟨f0, f1, f2, f3, hl⟩ : ∃ f0 f1 f2 f3, fs.toList = [f0, f1, f2, f3] := by
      have hn : fs.toList.length = 4 := by have := congrArg List.length h1'; simpa using this
      generalize fs.toList = l at hn
      match l, hn with
      | [f0, f1, f2, f3], _ => exact ⟨f0, f1, f2, f3, rfl⟩
    · have h1 : [f0.type, f1.type, f2.type, f3.type] = [a, b, c, d] := by rw [hl] at h1'; exact h1'
      simp only [List.cons.injEq, and_true] at h1
      have e : fs = #[f0, f1, f2, f3] := by rw [← Array.toArray_toList (xs := fs), hl]
      subst e
      exact ⟨f0, f1, f2, f3, hf, h2, h1.1, h1.2.1, h1.2.2.1, h1.2.2.2⟩
  · cases h
end Go.Ev
