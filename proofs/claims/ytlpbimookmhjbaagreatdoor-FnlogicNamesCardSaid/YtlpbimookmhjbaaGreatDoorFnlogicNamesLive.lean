/- gridironlaw20.begun comes to 'true' in every world. Conditions: none. -/
import Derived.Test.YtlpbimookmhjbaaGreatDoorRows
import Derived.Test.YtlpbimookmhjbaaGreatDoorEvNamesC
import Derived.Test.YtlpbimookmhjbaaGreatDoorFnlogicNamesSort
import Derived.Test.YtlpbimookmhjbaaGreatDoorFnlogicNamesCopy
namespace Go.Proofs.YtlpbimookmhjbaaGreatDoor
open Go.Ev Go.RowKit

set_option maxRecDepth 1000000
theorem fnlogicNames_mixed : Tryz.prog.follows .mixedOrders = true := by kernel_rfl
theorem mapsOk : ∀ (B : Nat) (w0 : Ev.Start), SummOK B 0 w0 Tryz.prog (mapsSumm 26 53 9 49) := mapsSumm_ok sortedAt copyAt
theorem dateOf_ok : (Closed.mk 144 [.float .f64 4656510908468559872, .float .f64 4607182418800017408, .float .f64 4607182418800017408] (.tuple #[.float .f64 4675252908797722624, .bool true])).ok Tryz.prog :=
  closed_FB (sm := closedSumm []) (closedSumm_ok (fun _ h => by cases h)) (n := 400) fnlogicNames_mixed (by kernel_rfl) (by kernel_rfl)
theorem liveSumm_ok : ∀ (B : Nat) (w0 : Ev.Start), SummOK B 0 w0 Tryz.prog (orSumm (mapsSumm 26 53 9 49) (closedSumm [Closed.mk 144 [.float .f64 4656510908468559872, .float .f64 4607182418800017408, .float .f64 4607182418800017408] (.tuple #[.float .f64 4675252908797722624, .bool true])])) :=
  fun B w0 => orSumm_ok (mapsOk B w0) (closedSumm_ok (fun k hk => by
    simp only [List.mem_singleton] at hk; subst hk; exact dateOf_ok) B w0)
theorem fnlogicNames_live_true : ComesTrue Tryz.prog 9 := closed_trueX liveSumm_ok (n := 400) fnlogicNames_mixed (by kernel_rfl)
end Go.Proofs.YtlpbimookmhjbaaGreatDoor
