/- What the call does, in every world and for every name: the two tables answer alike, and the law comes to 'true'. Conditions: none. -/
import Derived.Test.YtfpkapfpcbgcgaaGreatDoorRows
import Derived.Test.YtfpkapfpcbgcgaaGreatDoorEvLaw
namespace Go.Proofs.YtfpkapfpcbgcgaaGreatDoor
open Go.Ev Go.RowKit

/-- The functions' names, and how many arguments each takes. -/
def fnlookNames_tbl : List (ByteArray × Int × Int) := [
  (⟨#[65, 68, 68, 82, 69, 83, 83]⟩, 2, 5),
  (⟨#[67, 79, 76, 85, 77, 78, 83]⟩, 1, 1),
  (⟨#[68, 65, 86, 69, 82, 65, 71, 69]⟩, 3, 3),
  (⟨#[68, 67, 79, 85, 78, 84]⟩, 3, 3),
  (⟨#[68, 67, 79, 85, 78, 84, 65]⟩, 3, 3),
  (⟨#[68, 71, 69, 84]⟩, 3, 3),
  (⟨#[68, 77, 65, 88]⟩, 3, 3),
  (⟨#[68, 77, 73, 78]⟩, 3, 3),
  (⟨#[68, 80, 82, 79, 68, 85, 67, 84]⟩, 3, 3),
  (⟨#[68, 83, 85, 77]⟩, 3, 3),
  (⟨#[72, 76, 79, 79, 75, 85, 80]⟩, 3, 4),
  (⟨#[73, 78, 68, 69, 88]⟩, 1, 3),
  (⟨#[76, 79, 79, 75, 85, 80]⟩, 2, 3),
  (⟨#[77, 65, 84, 67, 72]⟩, 2, 3),
  (⟨#[77, 68, 69, 84, 69, 82, 77]⟩, 1, 1),
  (⟨#[77, 73, 78, 86, 69, 82, 83, 69]⟩, 1, 1),
  (⟨#[77, 77, 85, 76, 84]⟩, 2, 2),
  (⟨#[77, 85, 78, 73, 84]⟩, 1, 1),
  (⟨#[82, 79, 87, 83]⟩, 1, 1),
  (⟨#[84, 82, 65, 78, 83, 80, 79, 83, 69]⟩, 1, 1),
  (⟨#[86, 76, 79, 79, 75, 85, 80]⟩, 3, 4)]

set_option maxRecDepth 1000000
theorem fnlookNames_mixed : Tryz.prog.follows .mixedOrders = true := by kernel_rfl
theorem fnlookNames_arity_own : LooksUp Tryz.prog 12 fnlookNames_tbl := fun s w => calls_look (P := Tryz.prog) (enters := entersOf Tryz.prog) (n := 400) (f := 12) fnlookNames_mixed (fun _ h => h) (tbl := fnlookNames_tbl) (by kernel_rfl) s w
theorem fnlookNames_arity_ref : LooksUp Tryz.prog 13 fnlookNames_tbl := fun s w => calls_look (P := Tryz.prog) (enters := entersOf Tryz.prog) (n := 400) (f := 13) fnlookNames_mixed (fun _ h => h) (tbl := fnlookNames_tbl) (by kernel_rfl) s w
theorem fnlookNames_live_true : ComesTrue Tryz.prog 14 := fun w => calls_true (P := Tryz.prog) (enters := entersOf Tryz.prog) (n := 400) (f := 14) fnlookNames_mixed (fun _ h => h) (args := []) (by kernel_rfl) w
theorem fnlookNames_true (s : ByteArray) (w : World) : Calls Tryz.prog 4 #[.string s] w fun e w' => e = .returned (.bool true) ∧ Below w.heap.size w w' :=
  names_true (P := Tryz.prog) (n := 400) (fa := 12) (fb := 13) (more := [⟨14, [], .val (.bool true)⟩]) (tbl := fnlookNames_tbl) fnlookNames_mixed (by kernel_rfl) (by kernel_rfl) (fun w => fnlookNames_arity_own s w) (fun w => fnlookNames_arity_ref s w)
    (fun pins k hk => by
      simp only [List.mem_singleton] at hk; subst hk
      exact known_true (by kernel_rfl) fnlookNames_live_true)
    (by kernel_rfl) w
end Go.Proofs.YtfpkapfpcbgcgaaGreatDoor
