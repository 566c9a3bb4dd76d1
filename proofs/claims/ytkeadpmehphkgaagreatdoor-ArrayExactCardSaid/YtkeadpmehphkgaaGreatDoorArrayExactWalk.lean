/- What ArrayExact does, in every world, for every two floats and every exponent: 'true'. Conditions: none. -/
import Derived.Test.YtkeadpmehphkgaaGreatDoorArxD
import Derived.Test.YtkeadpmehphkgaaGreatDoorEvBool
namespace Go.Proofs.YtkeadpmehphkgaaGreatDoor
open Go.Ev Go.RowKit Go.Proofs.Arx
theorem arrayExact_true (x : Int) (_ : (Lit.int .u64 x).wf = true) (y : Int) (_ : (Lit.int .u64 y).wf = true) (n : Int) (_ : (Lit.int .i64 n).wf = true) (w : World) : Calls Tryz.prog 3 #[.int .u64 x, .int .u64 y, .int .i64 n] w fun e w' => e = .returned (.bool true) ∧ Below w.heap.size w w' := by
  refine con_bool (c := lawC) (cond := All) (vs := [.int .u64 x, .int .u64 y, .int .i64 n]) (fl := [.int .u64 x, .int .u64 y, .int .i64 n]) law_ok trivial rfl rfl rfl ?_ (fun b h => h)
  simp only [lawC, relL, Sh.rel]
  exact ⟨_, _, [_], [_, _], rfl, rfl, ⟨⟨x, rfl⟩, rfl⟩, _, _, [_], [_], rfl, rfl, ⟨⟨y, rfl⟩, rfl⟩, _, _, [_], [], rfl, rfl, ⟨⟨n, rfl⟩, rfl⟩, rfl, rfl⟩
end Go.Proofs.YtkeadpmehphkgaaGreatDoor
