/- Whether needs are met, plainly. -/
import Derived.Test.YtegjebiocgbmpaaLemLifts
import Derived.Test.YtegjebiocgbmpaaLemRow
import Derived.Test.YtegjebiocgbmpaaPx0
namespace Go.Proofs.Ytegjebiocgbmpaa.P
open Go.RowKit Go.Proofs.Ytegjebiocgbmpaa.P Go.Proofs.YtegjebiocgbmpaaW.PrintWords Go.Proofs.YtegjebiocgbmpaaW.PrintLast Go.Proofs.YtegjebiocgbmpaaW.PrintMore
set_option linter.unusedVariables false
set_option linter.unusedSimpArgs false
def metGo (n u : List Int) : Nat → Nat → Bool
  | 0, _ => true
  | d + 1, i => !decide (rd u i < rd n i) && metGo n u d (i + 1)
def isLiftedP (n u : List Int) : Bool := rowOk 12 n && rowOk 6 u && decide (u.length = n.length) && metGo n (liftsOf u) n.length 0

end Go.Proofs.Ytegjebiocgbmpaa.P
