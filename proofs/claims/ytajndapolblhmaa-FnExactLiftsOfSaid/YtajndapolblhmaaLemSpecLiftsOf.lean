/- The reference's LiftsOf, plainly. -/
import Derived.Test.YtajndapolblhmaaLemCore
import Derived.Test.YtajndapolblhmaaLemLifts
import Derived.Test.YtajndapolblhmaaLemRow
import Derived.Test.YtajndapolblhmaaLemSpecLifts
import Derived.Test.YtajndapolblhmaaLemSpecRow
import Derived.Test.YtajndapolblhmaaPx36
namespace Go.Proofs.Ytajndapolblhmaa.P
open Go.RowKit Go.Proofs.Ytajndapolblhmaa.P Go.Proofs.YtajndapolblhmaaW.PrintWords Go.Proofs.YtajndapolblhmaaW.PrintLast Go.Proofs.YtajndapolblhmaaW.PrintMore
set_option linter.unusedVariables false
set_option linter.unusedSimpArgs false
def liftsP (u : List Int) : List Int × Bool := if rowOk 6 u = true then (liftsOf u, true) else ([], false)
theorem specLiftsOf_is (k : Nat) (u : List Int) (hu : u.length ≤ 1048576) (hk : u.length < k) : spec_LiftsOf.f k u = some (liftsP u) := by
  unfold spec_LiftsOf.f liftsP
  rw [specRow_is _ 6 u (by omega) (by omega), bind_some_]
  by_cases h2 : rowOk 6 u = true
  · have l2 := rowOk_len h2
    rw [if_pos h2, if_pos h2, specLifts_is k u (by omega) (by omega), bind_some_]
  · rw [if_neg h2, if_neg h2]

end Go.Proofs.Ytajndapolblhmaa.P
