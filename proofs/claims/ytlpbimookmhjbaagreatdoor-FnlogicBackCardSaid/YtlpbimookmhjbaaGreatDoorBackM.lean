/- The law. -/
import Derived.Test.YtlpbimookmhjbaaGreatDoorBackL0
import Derived.Test.YtlpbimookmhjbaaGreatDoorBackL1
import Derived.Test.YtlpbimookmhjbaaGreatDoorBackL2
import Derived.Test.YtlpbimookmhjbaaGreatDoorBackL3
import Derived.Test.YtlpbimookmhjbaaGreatDoorBackL4
import Derived.Test.YtlpbimookmhjbaaGreatDoorBackL5
namespace Go.Proofs.Back
open Go.Ev Go.Dates Go.RowKit Go.Proofs.YtlpbimookmhjbaaGreatDoor
set_option maxRecDepth 1000000
theorem goalsFrom_at {c : Con} {C : Cfg} {n : Nat} (i k j : Nat) (e : i + k = j) (h : goalsAt c C n i k) (g : goalsFrom c C n j) : goalsFrom c C n i := by
  subst e
  exact goalsFrom_cut h g
attribute [local irreducible] goalsAt goalsFrom Con.goals
theorem law_from4 : goalsFrom lawC (cfgB lawC.base [begunK, yearC, monC, dayC, mkC, edateC, chkC, reckC, sameC]) 2000 20 := goalsFrom_at 20 5 25 (by decide) law_part4 law_part5
theorem law_from3 : goalsFrom lawC (cfgB lawC.base [begunK, yearC, monC, dayC, mkC, edateC, chkC, reckC, sameC]) 2000 15 := goalsFrom_at 15 5 20 (by decide) law_part3 law_from4
theorem law_from2 : goalsFrom lawC (cfgB lawC.base [begunK, yearC, monC, dayC, mkC, edateC, chkC, reckC, sameC]) 2000 10 := goalsFrom_at 10 5 15 (by decide) law_part2 law_from3
theorem law_from1 : goalsFrom lawC (cfgB lawC.base [begunK, yearC, monC, dayC, mkC, edateC, chkC, reckC, sameC]) 2000 5 := goalsFrom_at 5 5 10 (by decide) law_part1 law_from2
theorem law_from0 : goalsFrom lawC (cfgB lawC.base [begunK, yearC, monC, dayC, mkC, edateC, chkC, reckC, sameC]) 2000 0 := goalsFrom_at 0 5 5 (by decide) law_part0 law_from1
theorem law_goals : lawC.goals (cfgB lawC.base [begunK, yearC, monC, dayC, mkC, edateC, chkC, reckC, sameC]) [] 2000 := goals_of law_from0
theorem law_ok : lawC.ok Tryz.prog All :=
  by_goals (c := lawC) (cons := [begunK, yearC, monC, dayC, mkC, edateC, chkC, reckC, sameC]) (K := []) (n := 2000) law_goals (by kernel_rfl) (all_cons begunK_ok (all_cons year_ok (all_cons mon_ok (all_cons day_ok (all_cons mk_ok (all_cons edate_ok (all_cons chk_ok (all_cons reck_ok (all_cons same_ok all_nil)))))))))
end Go.Proofs.Back
