/- What is asked of a list of grouts. -/
import Derived.Test.YtajndapolblhmaaLemUpTo
import Derived.Test.YtajndapolblhmaaPx0
namespace Go.Proofs.Ytajndapolblhmaa.P
open Go.RowKit Go.Proofs.Ytajndapolblhmaa.P Go.Proofs.YtajndapolblhmaaW.PrintWords Go.Proofs.YtajndapolblhmaaW.PrintLast Go.Proofs.YtajndapolblhmaaW.PrintMore
set_option linter.unusedVariables false
set_option linter.unusedSimpArgs false
def grOk (l : List S40) (i : Nat) : Bool :=
  decide (0 ≤ (rd_T40 l i).f0 ∧ (rd_T40 l i).f0 ≤ 60) && decide (0 ≤ (rd_T40 l i).f1 ∧ (rd_T40 l i).f1 ≤ 100000) && decide (0 ≤ (rd_T40 l i).f2 ∧ (rd_T40 l i).f2 ≤ 100000) &&
    decide (0 ≤ (rd_T40 l i).f3 ∧ (rd_T40 l i).f3 ≤ 100) && (decide (i = 0) || decide ((rd_T40 l ((i - 1 : Nat) : Int)).f0 < (rd_T40 l i).f0))
def grValid (l : List S40) : Bool := upTo (grOk l) l.length 0 && decide ((l.length : Int) ≤ 12)

end Go.Proofs.Ytajndapolblhmaa.P
