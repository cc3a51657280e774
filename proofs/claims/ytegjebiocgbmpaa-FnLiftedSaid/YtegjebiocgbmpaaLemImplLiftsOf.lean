/- The program's LiftsOf, plainly. -/
import Derived.Test.YtegjebiocgbmpaaLemCore
import Derived.Test.YtegjebiocgbmpaaLemImplLifts
import Derived.Test.YtegjebiocgbmpaaLemImplUnits
import Derived.Test.YtegjebiocgbmpaaLemLifts
import Derived.Test.YtegjebiocgbmpaaLemRow
import Derived.Test.YtegjebiocgbmpaaPx3
namespace Go.Proofs.Ytegjebiocgbmpaa.P
open Go.RowKit Go.Proofs.Ytegjebiocgbmpaa.P Go.Proofs.YtegjebiocgbmpaaW.PrintWords Go.Proofs.YtegjebiocgbmpaaW.PrintLast Go.Proofs.YtegjebiocgbmpaaW.PrintMore
set_option linter.unusedVariables false
set_option linter.unusedSimpArgs false
def liftsPI (u : List Int) : List Int × Bool := if rowOk 6 u = true then (liftsOf u, true) else ([], false)
theorem implLiftsOf_is (k : Nat) (u : List Int) (hk : u.length < k) : impl_LiftsOf.f k u = some (liftsPI u) := by
  unfold impl_LiftsOf.f liftsPI
  rw [implUnits_is, bind_some_]
  by_cases h2 : rowOk 6 u = true
  · have l2 := rowOk_len h2
    rw [if_pos h2, if_pos h2, implLifts_is k u (by omega) (by omega), bind_some_]
  · rw [if_neg h2, if_neg h2]

end Go.Proofs.Ytegjebiocgbmpaa.P
