/- What the call does, in every world and for every name: the two tables answer alike, and the law comes to 'true'. Conditions: none. -/
import Derived.Test.YtlpbimookmhjbaaGreatDoorRows
import Derived.Test.YtlpbimookmhjbaaGreatDoorEvNamesC
import Derived.Test.YtlpbimookmhjbaaGreatDoorFnlogicNamesLive
namespace Go.Proofs.YtlpbimookmhjbaaGreatDoor
open Go.Ev Go.RowKit

/-- The functions' names, and how many arguments each takes. -/
def fnlogicNames_tbl : List (ByteArray × Int × Int) := [
  (⟨#[65, 78, 68]⟩, 1, 32),
  (⟨#[68, 65, 84, 69]⟩, 3, 3),
  (⟨#[68, 65, 84, 69, 86, 65, 76, 85, 69]⟩, 1, 1),
  (⟨#[68, 65, 89]⟩, 1, 1),
  (⟨#[68, 65, 89, 83]⟩, 2, 2),
  (⟨#[68, 65, 89, 83, 51, 54, 48]⟩, 2, 3),
  (⟨#[69, 65, 83, 84, 69, 82, 83, 85, 78, 68, 65, 89]⟩, 1, 1),
  (⟨#[69, 68, 65, 84, 69]⟩, 2, 2),
  (⟨#[69, 79, 77, 79, 78, 84, 72]⟩, 2, 2),
  (⟨#[69, 82, 82, 79, 82, 46, 84, 89, 80, 69]⟩, 1, 1),
  (⟨#[70, 65, 76, 83, 69]⟩, 0, 0),
  (⟨#[72, 79, 85, 82]⟩, 1, 1),
  (⟨#[73, 83, 66, 76, 65, 78, 75]⟩, 1, 1),
  (⟨#[73, 83, 69, 82, 82]⟩, 1, 1),
  (⟨#[73, 83, 69, 82, 82, 79, 82]⟩, 1, 1),
  (⟨#[73, 83, 69, 86, 69, 78]⟩, 1, 1),
  (⟨#[73, 83, 76, 79, 71, 73, 67, 65, 76]⟩, 1, 1),
  (⟨#[73, 83, 78, 65]⟩, 1, 1),
  (⟨#[73, 83, 78, 79, 78, 84, 69, 88, 84]⟩, 1, 1),
  (⟨#[73, 83, 78, 85, 77, 66, 69, 82]⟩, 1, 1),
  (⟨#[73, 83, 79, 68, 68]⟩, 1, 1),
  (⟨#[73, 83, 79, 87, 69, 69, 75, 78, 85, 77]⟩, 1, 1),
  (⟨#[73, 83, 84, 69, 88, 84]⟩, 1, 1),
  (⟨#[77, 73, 78, 85, 84, 69]⟩, 1, 1),
  (⟨#[77, 79, 78, 84, 72]⟩, 1, 1),
  (⟨#[78, 65]⟩, 0, 0),
  (⟨#[78, 69, 84, 87, 79, 82, 75, 68, 65, 89, 83]⟩, 2, 3),
  (⟨#[78, 79, 84]⟩, 1, 1),
  (⟨#[78, 79, 87]⟩, 0, 0),
  (⟨#[79, 82]⟩, 1, 32),
  (⟨#[83, 69, 67, 79, 78, 68]⟩, 1, 1),
  (⟨#[84, 73, 77, 69]⟩, 3, 3),
  (⟨#[84, 73, 77, 69, 86, 65, 76, 85, 69]⟩, 1, 1),
  (⟨#[84, 79, 68, 65, 89]⟩, 0, 0),
  (⟨#[84, 82, 85, 69]⟩, 0, 0),
  (⟨#[84, 89, 80, 69]⟩, 1, 1),
  (⟨#[87, 69, 69, 75, 68, 65, 89]⟩, 1, 2),
  (⟨#[87, 69, 69, 75, 78, 85, 77]⟩, 1, 2),
  (⟨#[87, 79, 82, 75, 68, 65, 89]⟩, 2, 3),
  (⟨#[88, 79, 82]⟩, 1, 32),
  (⟨#[89, 69, 65, 82]⟩, 1, 1),
  (⟨#[89, 69, 65, 82, 70, 82, 65, 67]⟩, 2, 3)]

set_option maxRecDepth 1000000
theorem fnlogicNames_arity_own : LooksUp Tryz.prog 7 fnlogicNames_tbl := calls_lookX mapsOk (n := 400) fnlogicNames_mixed (by kernel_rfl)
theorem fnlogicNames_arity_ref : LooksUp Tryz.prog 8 fnlogicNames_tbl := calls_lookX mapsOk (n := 400) fnlogicNames_mixed (by kernel_rfl)
theorem fnlogicNames_true (s : ByteArray) (w : World) : Calls Tryz.prog 3 #[.string s] w fun e w' => e = .returned (.bool true) ∧ Below w.heap.size w w' :=
  names_trueX mapsOk (n := 400) (fa := 7) (fb := 8) (more := [⟨9, [], .val (.bool true)⟩]) (tbl := fnlogicNames_tbl) fnlogicNames_mixed (by kernel_rfl) (by kernel_rfl) fnlogicNames_arity_own fnlogicNames_arity_ref
    (fun pins k hk => by
      simp only [List.mem_singleton] at hk; subst hk
      exact known_true (by kernel_rfl) fnlogicNames_live_true)
    (by kernel_rfl) w
end Go.Proofs.YtlpbimookmhjbaaGreatDoor
