/- live() answers 'true' where the variables that it reads hold what they are laid with. -/
import Derived.Test.YtdihaemeipdfgaaGreatDoorNumB
namespace Go.Proofs.Num
open Go.Ev Go.RowKit Go.Proofs.YtdihaemeipdfgaaGreatDoor
set_option maxRecDepth 1000000
def nlNames : List (String × Nat) := [("math/bits.deBruijn32tab", 0), ("math/bits.deBruijn64tab", 1), ("internal/strconv.optimize", 2), ("internal/strconv.uint64pow10", 3), ("unicode/utf8.acceptRanges", 4), ("internal/strconv.pow10Tab", 5), ("unicode/utf8.first", 6)]
noncomputable def nl : List GItem := (gItems Tryz.prog Rows.numberDaysRow.laid nlNames).getD []
theorem nl_some : (gItems Tryz.prog Rows.numberDaysRow.laid nlNames).isSome = true := by kernel_rfl
theorem nl_eq : gItems Tryz.prog Rows.numberDaysRow.laid nlNames = some nl := by
  unfold nl
  cases h : gItems Tryz.prog Rows.numberDaysRow.laid nlNames with
  | none => have := nl_some; rw [h] at this; cases this
  | some x => rfl
theorem live_true (w : World) (hI : Holds nl w) : Calls Tryz.prog 8 (#[] : Array Value) w fun e w' => e = .returned (.bool true) ∧ Below w.heap.size w w' :=
  calls_trueG (P := Tryz.prog) (n := 400) mixed (fun _ h => h) (m := 0) (nsym := 7) (ng := 18) pinned0 (by kernel_rfl) (l := []) (fun _ h => by cases h) hI (noFacts _ _) (args := []) (vs := []) rfl (by kernel_rfl)
def liveC : Con := Con.mk 8 [] (.sc .bool) "isTrue" (fun _ => True) false fun vs => vs = [.bool true]
theorem live_ok : liveC.ok Tryz.prog (Holds nl) := con_true (by kernel_rfl) live_true
theorem keeps : Keeps (Holds nl) := fun _ _ h hb => h.below hb
end Go.Proofs.Num
