/- What FnlogicBack does, in every world, for every day: 'true'. Conditions: none. -/
import Derived.Test.YtlpbimookmhjbaaGreatDoorBackM
import Derived.Test.YtlpbimookmhjbaaGreatDoorEvBool
namespace Go.Proofs.YtlpbimookmhjbaaGreatDoor
open Go.Ev Go.RowKit Go.Proofs.Back
theorem fnlogicBack_true (n : Int) (_ : (Lit.int .i64 n).wf = true) (w : World) : Calls Tryz.prog 5 #[.int .i64 n] w fun e w' => e = .returned (.bool true) ∧ Below w.heap.size w w' := by
  refine con_bool (c := lawC) (cond := All) (vs := [.int .i64 n]) (fl := [.int .i64 n]) law_ok trivial rfl rfl rfl ?_ (fun b h => h)
  simp only [lawC, relL, Sh.rel]
  exact ⟨_, _, [_], [], rfl, rfl, ⟨⟨n, rfl⟩, rfl⟩, rfl, rfl⟩
end Go.Proofs.YtlpbimookmhjbaaGreatDoor
