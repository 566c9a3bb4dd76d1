/- What NumberDates does, in every world in which the listed variables hold their data, for every argument: 'true'. Conditions: none. -/
import Derived.Test.YtdihaemeipdfgaaGreatDoorNumN
import Derived.Test.YtdihaemeipdfgaaGreatDoorEvBool
namespace Go.Proofs.YtdihaemeipdfgaaGreatDoor
open Go.Ev Go.RowKit Go.Proofs.Num
theorem numberDates_true (b y m d : Int) (w : World) (hI : Holds nl w) : Calls Tryz.prog 4 #[.agg #[.int .u64 b, .int .i64 y, .int .i64 m, .int .i64 d]] w fun e w' => e = .returned (.bool true) ∧ Below w.heap.size w w' := by
  refine con_bool (c := datesC) (vs := [.agg #[.int .u64 b, .int .i64 y, .int .i64 m, .int .i64 d]]) (fl := [.int .u64 b, .int .i64 y, .int .i64 m, .int .i64 d]) dates_ok hI rfl rfl ?_ (fun b h => h)
  simp only [datesC, relL, Sh.rel]
  exact ⟨_, _, [_, _, _, _], [], rfl, rfl, ⟨[_, _, _, _], rfl, _, _, [_], [_, _, _], rfl, rfl, ⟨⟨b, rfl⟩, rfl⟩, _, _, [_], [_, _], rfl, rfl, ⟨⟨y, rfl⟩, rfl⟩, _, _, [_], [_], rfl, rfl, ⟨⟨m, rfl⟩, rfl⟩, _, _, [_], [], rfl, rfl, ⟨⟨d, rfl⟩, rfl⟩, rfl, rfl⟩, rfl, rfl⟩
end Go.Proofs.YtdihaemeipdfgaaGreatDoor
