/- What is asked of a list of losses. -/
import Derived.Test.YtikpjjllccijoaaLemUpTo
import Derived.Test.YtikpjjllccijoaaPx0
namespace Go.Proofs.Ytikpjjllccijoaa.P
open Go.RowKit Go.Proofs.Ytikpjjllccijoaa.P Go.Proofs.YtikpjjllccijoaaW.PrintWords Go.Proofs.YtikpjjllccijoaaW.PrintLast Go.Proofs.YtikpjjllccijoaaW.PrintMore
set_option linter.unusedVariables false
set_option linter.unusedSimpArgs false
def lsOk (l : List S94) (i : Nat) : Bool :=
  decide (0 ≤ (rd_T94 l i).f1 ∧ (rd_T94 l i).f1 ≤ 100000) && decide (0 ≤ (rd_T94 l i).f2 ∧ (rd_T94 l i).f2 ≤ 5) && decide ((rd_T94 l i).f2 ≤ (rd_T94 l i).f0 ∧ (rd_T94 l i).f0 ≤ wrap64 (23 - (rd_T94 l i).f2))
def lsValid (l : List S94) : Bool := upTo (lsOk l) l.length 0 && decide ((l.length : Int) ≤ 12)

end Go.Proofs.Ytikpjjllccijoaa.P
