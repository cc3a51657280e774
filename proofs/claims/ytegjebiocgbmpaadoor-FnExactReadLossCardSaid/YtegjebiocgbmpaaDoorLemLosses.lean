/- What is asked of a list of losses. -/
import Derived.Test.YtegjebiocgbmpaaDoorLemUpTo
import Derived.Test.YtegjebiocgbmpaaDoorPx0
namespace Go.Proofs.YtegjebiocgbmpaaDoor.P
open Go.RowKit Go.Proofs.YtegjebiocgbmpaaDoor.P Go.Proofs.YtegjebiocgbmpaaDoorW.PrintWords Go.Proofs.YtegjebiocgbmpaaDoorW.PrintLast Go.Proofs.YtegjebiocgbmpaaDoorW.PrintMore
set_option linter.unusedVariables false
set_option linter.unusedSimpArgs false
def lsOk (l : List S26) (i : Nat) : Bool :=
  decide (0 ≤ (rd_T26 l i).f1 ∧ (rd_T26 l i).f1 ≤ 100000) && decide (0 ≤ (rd_T26 l i).f2 ∧ (rd_T26 l i).f2 ≤ 5) && decide ((rd_T26 l i).f2 ≤ (rd_T26 l i).f0 ∧ (rd_T26 l i).f0 ≤ wrap64 (23 - (rd_T26 l i).f2))
def lsValid (l : List S26) : Bool := upTo (lsOk l) l.length 0 && decide ((l.length : Int) ≤ 12)

end Go.Proofs.YtegjebiocgbmpaaDoor.P
