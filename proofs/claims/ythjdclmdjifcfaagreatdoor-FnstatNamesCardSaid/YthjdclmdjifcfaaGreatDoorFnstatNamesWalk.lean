/- What the call does, in every world and for every name: the two tables answer alike, and the law comes to 'true'. Conditions: none. -/
import Derived.Test.YthjdclmdjifcfaaGreatDoorRows
import Derived.Test.YthjdclmdjifcfaaGreatDoorEvNamesS
import Derived.Test.YthjdclmdjifcfaaGreatDoorFnstatNamesSort
namespace Go.Proofs.YthjdclmdjifcfaaGreatDoor
open Go.Ev Go.RowKit

/-- The functions' names, and how many arguments each takes. -/
def fnstatNames_tbl : List (ByteArray × Int × Int) := [
  (⟨#[65, 86, 69, 68, 69, 86]⟩, 1, 32),
  (⟨#[65, 86, 69, 82, 65, 71, 69]⟩, 1, 32),
  (⟨#[65, 86, 69, 82, 65, 71, 69, 65]⟩, 1, 32),
  (⟨#[65, 86, 69, 82, 65, 71, 69, 73, 70]⟩, 2, 3),
  (⟨#[65, 86, 69, 82, 65, 71, 69, 73, 70, 83]⟩, 3, 32),
  (⟨#[67, 79, 82, 82, 69, 76]⟩, 2, 2),
  (⟨#[67, 79, 85, 78, 84]⟩, 1, 32),
  (⟨#[67, 79, 85, 78, 84, 65]⟩, 1, 32),
  (⟨#[67, 79, 85, 78, 84, 66, 76, 65, 78, 75]⟩, 1, 1),
  (⟨#[67, 79, 85, 78, 84, 73, 70]⟩, 2, 2),
  (⟨#[67, 79, 85, 78, 84, 73, 70, 83]⟩, 2, 32),
  (⟨#[67, 79, 86, 65, 82]⟩, 2, 2),
  (⟨#[68, 69, 86, 83, 81]⟩, 1, 32),
  (⟨#[70, 79, 82, 69, 67, 65, 83, 84]⟩, 3, 3),
  (⟨#[70, 82, 69, 81, 85, 69, 78, 67, 89]⟩, 2, 2),
  (⟨#[72, 65, 82, 77, 69, 65, 78]⟩, 1, 32),
  (⟨#[73, 78, 84, 69, 82, 67, 69, 80, 84]⟩, 2, 2),
  (⟨#[76, 65, 82, 71, 69]⟩, 2, 2),
  (⟨#[77, 65, 88]⟩, 1, 32),
  (⟨#[77, 65, 88, 65]⟩, 1, 32),
  (⟨#[77, 65, 88, 73, 70, 83]⟩, 3, 32),
  (⟨#[77, 69, 68, 73, 65, 78]⟩, 1, 32),
  (⟨#[77, 73, 78]⟩, 1, 32),
  (⟨#[77, 73, 78, 65]⟩, 1, 32),
  (⟨#[77, 73, 78, 73, 70, 83]⟩, 3, 32),
  (⟨#[77, 79, 68, 69]⟩, 1, 32),
  (⟨#[80, 69, 65, 82, 83, 79, 78]⟩, 2, 2),
  (⟨#[80, 69, 82, 67, 69, 78, 84, 73, 76, 69]⟩, 2, 2),
  (⟨#[80, 69, 82, 67, 69, 78, 84, 82, 65, 78, 75]⟩, 2, 2),
  (⟨#[81, 85, 65, 82, 84, 73, 76, 69]⟩, 2, 2),
  (⟨#[82, 65, 78, 75]⟩, 2, 3),
  (⟨#[82, 83, 81]⟩, 2, 2),
  (⟨#[83, 76, 79, 80, 69]⟩, 2, 2),
  (⟨#[83, 77, 65, 76, 76]⟩, 2, 2),
  (⟨#[83, 84, 65, 78, 68, 65, 82, 68, 73, 90, 69]⟩, 3, 3),
  (⟨#[83, 84, 68, 69, 86]⟩, 1, 32),
  (⟨#[83, 84, 68, 69, 86, 65]⟩, 1, 32),
  (⟨#[83, 84, 68, 69, 86, 80]⟩, 1, 32),
  (⟨#[83, 84, 68, 69, 86, 80, 65]⟩, 1, 32),
  (⟨#[83, 85, 77, 73, 70]⟩, 2, 3),
  (⟨#[83, 85, 77, 73, 70, 83]⟩, 3, 32),
  (⟨#[84, 82, 73, 77, 77, 69, 65, 78]⟩, 2, 2),
  (⟨#[86, 65, 82]⟩, 1, 32),
  (⟨#[86, 65, 82, 65]⟩, 1, 32),
  (⟨#[86, 65, 82, 80]⟩, 1, 32),
  (⟨#[86, 65, 82, 80, 65]⟩, 1, 32)]

set_option maxRecDepth 1000000
theorem fnstatNames_mixed : Tryz.prog.follows .mixedOrders = true := by kernel_rfl
theorem fnstatNames_arity_own : LooksUp Tryz.prog 4 fnstatNames_tbl := fun s w => calls_look (P := Tryz.prog) (enters := entersOf Tryz.prog) (n := 400) (f := 4) fnstatNames_mixed (fun _ h => h) (tbl := fnstatNames_tbl) (by kernel_rfl) s w
theorem fnstatNames_arity_ref : LooksUp Tryz.prog 5 fnstatNames_tbl := fun s w => calls_look (P := Tryz.prog) (enters := entersOf Tryz.prog) (n := 400) (f := 5) fnstatNames_mixed (fun _ h => h) (tbl := fnstatNames_tbl) (by kernel_rfl) s w
theorem fnstatNames_live_true : ComesTrue Tryz.prog 6 := fun w => calls_true (P := Tryz.prog) (enters := entersOf Tryz.prog) (n := 400) (f := 6) fnstatNames_mixed (fun _ h => h) (args := []) (by kernel_rfl) w
theorem fnstatNames_true (s : ByteArray) (w : World) : Calls Tryz.prog 3 #[.string s] w fun e w' => e = .returned (.bool true) ∧ Below w.heap.size w w' :=
  names_trueS (P := Tryz.prog) sortedAt (n := 400) (fa := 4) (fb := 5) (more := [⟨6, [], .val (.bool true)⟩]) (tbl := fnstatNames_tbl) fnstatNames_mixed (by kernel_rfl) (by kernel_rfl) fnstatNames_arity_own fnstatNames_arity_ref
    (fun pins k hk => by
      simp only [List.mem_singleton] at hk; subst hk
      exact known_true (by kernel_rfl) fnstatNames_live_true)
    (by kernel_rfl) w
end Go.Proofs.YthjdclmdjifcfaaGreatDoor
