/- What FnmathDivides does, in every world, for every two numbers: 'true'. Conditions: none. -/
import Derived.Test.YtgfoocnnidhepaaGreatDoorDivE
import Derived.Test.YtgfoocnnidhepaaGreatDoorEvBool
namespace Go.Proofs.YtgfoocnnidhepaaGreatDoor
open Go.Ev Go.RowKit Go.Proofs.Dv
theorem u32_wf {x : Int} (h : (Lit.int .u32 x).wf = true) : 0 ≤ x ∧ x ≤ 4294967295 := by
  simp only [Lit.wf, Bool.and_eq_true, decide_eq_true_eq] at h
  have h1 : IntKind.u32.min = 0 := rfl
  have h2 : IntKind.u32.max = 4294967295 := rfl
  omega
theorem fnmathDivides_true (n : Int) (hn : (Lit.int .u32 n).wf = true) (k : Int) (hk : (Lit.int .u32 k).wf = true) (w : World) : Calls Tryz.prog 3 #[.int .u32 n, .int .u32 k] w fun e w' => e = .returned (.bool true) ∧ Below w.heap.size w w' := by
  have b := u32_wf hn
  have c := u32_wf hk
  refine con_bool (c := lawC) (cond := All) (vs := [.int .u32 n, .int .u32 k]) (fl := [.int .u32 n, .int .u32 k]) law_ok trivial rfl rfl rfl ?_ (fun b h => h)
  simp only [lawC, relL, Sh.rel]
  exact ⟨_, _, [_], [_], rfl, rfl, ⟨⟨n, rfl, fun a ha => by cases ha; exact b.1, fun a ha => by cases ha; exact b.2⟩, rfl⟩, _, _, [_], [], rfl, rfl, ⟨⟨k, rfl, fun a ha => by cases ha; exact c.1, fun a ha => by cases ha; exact c.2⟩, rfl⟩, rfl, rfl⟩
end Go.Proofs.YtgfoocnnidhepaaGreatDoor
