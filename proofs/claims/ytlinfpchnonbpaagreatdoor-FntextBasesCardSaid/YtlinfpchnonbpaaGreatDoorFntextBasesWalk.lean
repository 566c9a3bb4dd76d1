/- What FntextBases does, in every world in which utf8's tables lie, for every number: 'true'. Conditions: none. -/
import Derived.Test.YtlinfpchnonbpaaGreatDoorFxbE
import Derived.Test.YtlinfpchnonbpaaGreatDoorEvBool
namespace Go.Proofs.YtlinfpchnonbpaaGreatDoor
open Go.Ev Go.RowKit Go.Proofs.Bs
theorem i64_wf {x : Int} (h : (Lit.int .i64 x).wf = true) : -9223372036854775808 ≤ x ∧ x ≤ 9223372036854775807 := by
  simp only [Lit.wf, Bool.and_eq_true, decide_eq_true_eq] at h
  have h1 : IntKind.i64.min = -9223372036854775808 := rfl
  have h2 : IntKind.i64.max = 9223372036854775807 := rfl
  omega
theorem fntextBases_true (n : Int) (hn : (Lit.int .i64 n).wf = true) (w : World) (hT : Tabs w) : Calls Tryz.prog 3 #[.int .i64 n] w fun e w' => e = .returned (.bool true) ∧ Below w.heap.size w w' := by
  have b := i64_wf hn
  refine con_bool (c := lawC) (cond := Tabs) (vs := [.int .i64 n]) (fl := [.int .i64 n]) law_ok hT rfl rfl rfl ?_ (fun b h => by have h : Value.bool b = .bool true := h; cases h; rfl)
  simp only [lawC, relL, Sh.rel]
  exact ⟨_, _, [_], [], rfl, rfl, ⟨⟨n, rfl, fun a ha => by cases ha; exact b.1, fun a ha => by cases ha; exact b.2⟩, rfl⟩, rfl, rfl⟩
end Go.Proofs.YtlinfpchnonbpaaGreatDoor
