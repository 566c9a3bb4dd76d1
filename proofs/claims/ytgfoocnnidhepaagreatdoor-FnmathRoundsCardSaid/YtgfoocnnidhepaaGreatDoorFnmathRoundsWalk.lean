/- What FnmathRounds does, in every world, for every number and every count of places: 'true'. Conditions: none. -/
import Derived.Test.YtgfoocnnidhepaaGreatDoorRndE
import Derived.Test.YtgfoocnnidhepaaGreatDoorEvBool
namespace Go.Proofs.YtgfoocnnidhepaaGreatDoor
open Go.Ev Go.RowKit Go.Proofs.Rnd
theorem i32_wf {x : Int} (h : (Lit.int .i32 x).wf = true) : -2147483648 ≤ x ∧ x ≤ 2147483647 := by
  simp only [Lit.wf, Bool.and_eq_true, decide_eq_true_eq] at h
  have h1 : IntKind.i32.min = -2147483648 := rfl
  have h2 : IntKind.i32.max = 2147483647 := rfl
  omega
theorem u8_wf {x : Int} (h : (Lit.int .u8 x).wf = true) : 0 ≤ x ∧ x ≤ 255 := by
  simp only [Lit.wf, Bool.and_eq_true, decide_eq_true_eq] at h
  have h1 : IntKind.u8.min = 0 := rfl
  have h2 : IntKind.u8.max = 255 := rfl
  omega
theorem fnmathRounds_true (n : Int) (hn : (Lit.int .i32 n).wf = true) (k : Int) (hk : (Lit.int .u8 k).wf = true) (w : World) : Calls Tryz.prog 4 #[.int .i32 n, .int .u8 k] w fun e w' => e = .returned (.bool true) ∧ Below w.heap.size w w' := by
  have b := i32_wf hn
  have c := u8_wf hk
  refine con_bool (c := lawC) (cond := All) (vs := [.int .i32 n, .int .u8 k]) (fl := [.int .i32 n, .int .u8 k]) law_ok trivial rfl rfl rfl ?_ (fun b h => h)
  simp only [lawC, relL, Sh.rel]
  exact ⟨_, _, [_], [_], rfl, rfl, ⟨⟨n, rfl, fun a ha => by cases ha; exact b.1, fun a ha => by cases ha; exact b.2⟩, rfl⟩, _, _, [_], [], rfl, rfl, ⟨⟨k, rfl, fun a ha => by cases ha; exact c.1, fun a ha => by cases ha; exact c.2⟩, rfl⟩, rfl, rfl⟩
end Go.Proofs.YtgfoocnnidhepaaGreatDoor
