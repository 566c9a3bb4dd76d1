/- What the call does, in every world and for every name: the two tables answer alike, and the law comes to 'true'. Conditions: none. -/
import Derived.Test.YtfpkapfpcbgcgaaGreatDoorRows
import Derived.Test.YtfpkapfpcbgcgaaGreatDoorEvLaw
namespace Go.Proofs.YtfpkapfpcbgcgaaGreatDoor
open Go.Ev Go.RowKit

/-- The functions' names, and how many arguments each takes. -/
def fntextNames_tbl : List (ByteArray × Int × Int) := [
  (⟨#[66, 73, 78, 50, 68, 69, 67]⟩, 1, 1),
  (⟨#[66, 73, 78, 50, 72, 69, 88]⟩, 1, 2),
  (⟨#[66, 73, 78, 50, 79, 67, 84]⟩, 1, 2),
  (⟨#[67, 72, 65, 82]⟩, 1, 1),
  (⟨#[67, 76, 69, 65, 78]⟩, 1, 1),
  (⟨#[67, 79, 68, 69]⟩, 1, 1),
  (⟨#[67, 79, 78, 67, 65, 84, 69, 78, 65, 84, 69]⟩, 1, 32),
  (⟨#[68, 69, 67, 50, 66, 73, 78]⟩, 1, 2),
  (⟨#[68, 69, 67, 50, 72, 69, 88]⟩, 1, 2),
  (⟨#[68, 69, 67, 50, 79, 67, 84]⟩, 1, 2),
  (⟨#[69, 88, 65, 67, 84]⟩, 2, 2),
  (⟨#[70, 73, 78, 68]⟩, 2, 3),
  (⟨#[70, 73, 88, 69, 68]⟩, 1, 3),
  (⟨#[72, 69, 88, 50, 66, 73, 78]⟩, 1, 2),
  (⟨#[72, 69, 88, 50, 68, 69, 67]⟩, 1, 1),
  (⟨#[72, 69, 88, 50, 79, 67, 84]⟩, 1, 2),
  (⟨#[76, 69, 70, 84]⟩, 1, 2),
  (⟨#[76, 69, 78]⟩, 1, 1),
  (⟨#[76, 79, 87, 69, 82]⟩, 1, 1),
  (⟨#[77, 73, 68]⟩, 3, 3),
  (⟨#[78]⟩, 1, 1),
  (⟨#[78, 85, 77, 66, 69, 82, 86, 65, 76, 85, 69]⟩, 1, 3),
  (⟨#[79, 67, 84, 50, 66, 73, 78]⟩, 1, 2),
  (⟨#[79, 67, 84, 50, 68, 69, 67]⟩, 1, 1),
  (⟨#[79, 67, 84, 50, 72, 69, 88]⟩, 1, 2),
  (⟨#[80, 82, 79, 80, 69, 82]⟩, 1, 1),
  (⟨#[82, 69, 80, 76, 65, 67, 69]⟩, 4, 4),
  (⟨#[82, 69, 80, 84]⟩, 2, 2),
  (⟨#[82, 73, 71, 72, 84]⟩, 1, 2),
  (⟨#[83, 69, 65, 82, 67, 72]⟩, 2, 3),
  (⟨#[83, 85, 66, 83, 84, 73, 84, 85, 84, 69]⟩, 3, 4),
  (⟨#[84]⟩, 1, 1),
  (⟨#[84, 69, 88, 84, 74, 79, 73, 78]⟩, 3, 32),
  (⟨#[84, 82, 73, 77]⟩, 1, 1),
  (⟨#[85, 78, 73, 67, 72, 65, 82]⟩, 1, 1),
  (⟨#[85, 78, 73, 67, 79, 68, 69]⟩, 1, 1),
  (⟨#[85, 80, 80, 69, 82]⟩, 1, 1),
  (⟨#[86, 65, 76, 85, 69]⟩, 1, 1)]

set_option maxRecDepth 1000000
theorem fntextNames_mixed : Tryz.prog.follows .mixedOrders = true := by kernel_rfl
theorem fntextNames_arity_own : LooksUp Tryz.prog 6 fntextNames_tbl := fun s w => calls_look (P := Tryz.prog) (enters := entersOf Tryz.prog) (n := 400) (f := 6) fntextNames_mixed (fun _ h => h) (tbl := fntextNames_tbl) (by kernel_rfl) s w
theorem fntextNames_arity_ref : LooksUp Tryz.prog 7 fntextNames_tbl := fun s w => calls_look (P := Tryz.prog) (enters := entersOf Tryz.prog) (n := 400) (f := 7) fntextNames_mixed (fun _ h => h) (tbl := fntextNames_tbl) (by kernel_rfl) s w
theorem fntextNames_live_true : ComesTrue Tryz.prog 8 := fun w => calls_true (P := Tryz.prog) (enters := entersOf Tryz.prog) (n := 400) (f := 8) fntextNames_mixed (fun _ h => h) (args := []) (by kernel_rfl) w
theorem fntextNames_true (s : ByteArray) (w : World) : Calls Tryz.prog 3 #[.string s] w fun e w' => e = .returned (.bool true) ∧ Below w.heap.size w w' :=
  names_true (P := Tryz.prog) (n := 400) (fa := 6) (fb := 7) (more := [⟨8, [], .val (.bool true)⟩]) (tbl := fntextNames_tbl) fntextNames_mixed (by kernel_rfl) (by kernel_rfl) (fun w => fntextNames_arity_own s w) (fun w => fntextNames_arity_ref s w)
    (fun pins k hk => by
      simp only [List.mem_singleton] at hk; subst hk
      exact known_true (by kernel_rfl) fntextNames_live_true)
    (by kernel_rfl) w
end Go.Proofs.YtfpkapfpcbgcgaaGreatDoor
