/- What is asked of a list of grouts. -/
import Derived.Test.YtikpjjllccijoaaLemUpTo
import Derived.Test.YtikpjjllccijoaaPx0
namespace Go.Proofs.Ytikpjjllccijoaa.P
open Go.RowKit Go.Proofs.Ytikpjjllccijoaa.P Go.Proofs.YtikpjjllccijoaaW.PrintWords Go.Proofs.YtikpjjllccijoaaW.PrintLast Go.Proofs.YtikpjjllccijoaaW.PrintMore
set_option linter.unusedVariables false
set_option linter.unusedSimpArgs false
def grOk (l : List S49) (i : Nat) : Bool :=
  decide (0 ≤ (rd_T49 l i).f0 ∧ (rd_T49 l i).f0 ≤ 60) && decide (0 ≤ (rd_T49 l i).f1 ∧ (rd_T49 l i).f1 ≤ 100000) && decide (0 ≤ (rd_T49 l i).f2 ∧ (rd_T49 l i).f2 ≤ 100000) &&
    decide (0 ≤ (rd_T49 l i).f3 ∧ (rd_T49 l i).f3 ≤ 100) && (decide (i = 0) || decide ((rd_T49 l ((i - 1 : Nat) : Int)).f0 < (rd_T49 l i).f0))
def grValid (l : List S49) : Bool := upTo (grOk l) l.length 0 && decide ((l.length : Int) ≤ 12)

end Go.Proofs.Ytikpjjllccijoaa.P
