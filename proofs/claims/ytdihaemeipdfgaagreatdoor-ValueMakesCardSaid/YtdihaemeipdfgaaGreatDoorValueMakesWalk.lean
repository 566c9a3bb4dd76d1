/- What ValueMakes does, in every world in which the listed variables hold their data, for every argument: 'true'. Conditions: none. -/
import Derived.Test.YtdihaemeipdfgaaGreatDoorNumM
import Derived.Test.YtdihaemeipdfgaaGreatDoorEvBool
namespace Go.Proofs.YtdihaemeipdfgaaGreatDoor
open Go.Ev Go.RowKit Go.Proofs.Num
theorem valueMakes_true (x : Int) (_hx : (Lit.int .u64 x).wf = true) (s : ByteArray) (y : Bool) (n : Int) (_hn : (Lit.int .i64 n).wf = true) (w : World) (hI : Holds vm w) : Calls Tryz.prog 5 #[.int .u64 x, .string s, .bool y, .int .i64 n] w fun e w' => e = .returned (.bool true) ∧ Below w.heap.size w w' := by
  refine con_bool (c := makesC) (vs := [.int .u64 x, .string s, .bool y, .int .i64 n]) (fl := [.int .u64 x, .string s, .bool y, .int .i64 n]) makes_ok hI rfl rfl ?_ (fun b h => h)
  simp only [makesC, relL, Sh.rel]
  exact ⟨_, _, [_], [_, _, _], rfl, rfl, ⟨⟨x, rfl⟩, rfl⟩, _, _, [_], [_, _], rfl, rfl, ⟨⟨s, rfl⟩, rfl⟩, _, _, [_], [_], rfl, rfl, ⟨⟨y, rfl⟩, rfl⟩, _, _, [_], [], rfl, rfl, ⟨⟨n, rfl⟩, rfl⟩, rfl, rfl⟩
end Go.Proofs.YtdihaemeipdfgaaGreatDoor
