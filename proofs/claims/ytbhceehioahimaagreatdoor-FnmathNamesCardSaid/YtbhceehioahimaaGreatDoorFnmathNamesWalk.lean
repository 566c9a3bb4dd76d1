/- What the call does, in every world and for every name: the two tables answer alike, and the law comes to 'true'. Conditions: none. -/
import Derived.Test.YtbhceehioahimaaGreatDoorRows
import Derived.Test.YtbhceehioahimaaGreatDoorEvLaw
namespace Go.Proofs.YtbhceehioahimaaGreatDoor
open Go.Ev Go.RowKit

/-- The functions' names, and how many arguments each takes. -/
def tbl : List (ByteArray × Int × Int) := [
  (⟨#[65, 66, 83]⟩, 1, 1),
  (⟨#[65, 82, 65, 66, 73, 67]⟩, 1, 1),
  (⟨#[66, 65, 83, 69]⟩, 2, 3),
  (⟨#[66, 73, 84, 65, 78, 68]⟩, 2, 2),
  (⟨#[66, 73, 84, 76, 83, 72, 73, 70, 84]⟩, 2, 2),
  (⟨#[66, 73, 84, 79, 82]⟩, 2, 2),
  (⟨#[66, 73, 84, 82, 83, 72, 73, 70, 84]⟩, 2, 2),
  (⟨#[66, 73, 84, 88, 79, 82]⟩, 2, 2),
  (⟨#[67, 69, 73, 76, 73, 78, 71]⟩, 1, 2),
  (⟨#[67, 79, 77, 66, 73, 78]⟩, 2, 2),
  (⟨#[67, 79, 77, 66, 73, 78, 65]⟩, 2, 2),
  (⟨#[68, 69, 67, 73, 77, 65, 76]⟩, 2, 2),
  (⟨#[68, 69, 76, 84, 65]⟩, 1, 2),
  (⟨#[69, 86, 69, 78]⟩, 1, 1),
  (⟨#[70, 65, 67, 84]⟩, 1, 1),
  (⟨#[70, 65, 67, 84, 68, 79, 85, 66, 76, 69]⟩, 1, 1),
  (⟨#[70, 76, 79, 79, 82]⟩, 1, 2),
  (⟨#[71, 67, 68]⟩, 1, 32),
  (⟨#[71, 69, 83, 84, 69, 80]⟩, 1, 2),
  (⟨#[73, 78, 84]⟩, 1, 1),
  (⟨#[76, 67, 77]⟩, 1, 32),
  (⟨#[77, 79, 68]⟩, 2, 2),
  (⟨#[77, 82, 79, 85, 78, 68]⟩, 2, 2),
  (⟨#[77, 85, 76, 84, 73, 78, 79, 77, 73, 65, 76]⟩, 1, 32),
  (⟨#[79, 68, 68]⟩, 1, 1),
  (⟨#[80, 69, 82, 77, 85, 84]⟩, 2, 2),
  (⟨#[80, 69, 82, 77, 85, 84, 65, 84, 73, 79, 78, 65]⟩, 2, 2),
  (⟨#[80, 79, 87, 69, 82]⟩, 2, 2),
  (⟨#[80, 82, 79, 68, 85, 67, 84]⟩, 1, 32),
  (⟨#[81, 85, 79, 84, 73, 69, 78, 84]⟩, 2, 2),
  (⟨#[82, 65, 78, 68]⟩, 0, 0),
  (⟨#[82, 65, 78, 68, 66, 69, 84, 87, 69, 69, 78]⟩, 2, 2),
  (⟨#[82, 79, 77, 65, 78]⟩, 1, 1),
  (⟨#[82, 79, 85, 78, 68]⟩, 1, 2),
  (⟨#[82, 79, 85, 78, 68, 68, 79, 87, 78]⟩, 1, 2),
  (⟨#[82, 79, 85, 78, 68, 85, 80]⟩, 1, 2),
  (⟨#[83, 69, 82, 73, 69, 83, 83, 85, 77]⟩, 4, 4),
  (⟨#[83, 73, 71, 78]⟩, 1, 1),
  (⟨#[83, 81, 82, 84]⟩, 1, 1),
  (⟨#[83, 85, 77]⟩, 1, 32),
  (⟨#[83, 85, 77, 80, 82, 79, 68, 85, 67, 84]⟩, 1, 32),
  (⟨#[83, 85, 77, 83, 81]⟩, 1, 32),
  (⟨#[83, 85, 77, 88, 50, 77, 89, 50]⟩, 2, 2),
  (⟨#[83, 85, 77, 88, 50, 80, 89, 50]⟩, 2, 2),
  (⟨#[83, 85, 77, 88, 77, 89, 50]⟩, 2, 2),
  (⟨#[84, 82, 85, 78, 67]⟩, 1, 2)]

set_option maxRecDepth 1000000
theorem mixed : Tryz.prog.follows .mixedOrders = true := by kernel_rfl
theorem arity_own : LooksUp Tryz.prog 4 tbl := fun s w => calls_look (P := Tryz.prog) (enters := entersOf Tryz.prog) (n := 400) (f := 4) mixed (fun _ h => h) (tbl := tbl) (by kernel_rfl) s w
theorem arity_ref : LooksUp Tryz.prog 5 tbl := fun s w => calls_look (P := Tryz.prog) (enters := entersOf Tryz.prog) (n := 400) (f := 5) mixed (fun _ h => h) (tbl := tbl) (by kernel_rfl) s w
theorem live_true : ComesTrue Tryz.prog 6 := fun w => calls_true (P := Tryz.prog) (enters := entersOf Tryz.prog) (n := 400) (f := 6) mixed (fun _ h => h) (args := []) (by kernel_rfl) w
theorem law_true (s : ByteArray) (w : World) : Calls Tryz.prog 3 #[.string s] w fun e w' => e = .returned (.bool true) ∧ Below w.heap.size w w' :=
  names_true (P := Tryz.prog) (n := 400) (fa := 4) (fb := 5) (more := [⟨6, [], .val (.bool true)⟩]) (tbl := tbl) mixed (by kernel_rfl) (by kernel_rfl) (fun w => arity_own s w) (fun w => arity_ref s w)
    (fun pins k hk => by
      simp only [List.mem_singleton] at hk; subst hk
      exact known_true (by kernel_rfl) live_true)
    (by kernel_rfl) w
end Go.Proofs.YtbhceehioahimaaGreatDoor
