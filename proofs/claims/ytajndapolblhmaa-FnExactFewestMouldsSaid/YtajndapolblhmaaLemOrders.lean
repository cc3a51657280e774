/- What is asked of a list of orders. -/
import Derived.Test.YtajndapolblhmaaLemUpTo
import Derived.Test.YtajndapolblhmaaPx0
namespace Go.Proofs.Ytajndapolblhmaa.P
open Go.RowKit Go.Proofs.Ytajndapolblhmaa.P Go.Proofs.YtajndapolblhmaaW.PrintWords Go.Proofs.YtajndapolblhmaaW.PrintLast Go.Proofs.YtajndapolblhmaaW.PrintMore
set_option linter.unusedVariables false
set_option linter.unusedSimpArgs false
def orOk (l : List S119) (i : Nat) : Bool :=
  decide (0 ≤ (rd_T119 l i).f0 ∧ (rd_T119 l i).f0 ≤ 200) && decide (1 ≤ (rd_T119 l i).f1 ∧ (rd_T119 l i).f1 ≤ 200) && (decide (i = 0) || decide ((rd_T119 l ((i - 1 : Nat) : Int)).f0 < (rd_T119 l i).f0))
def orValid (l : List S119) : Bool := upTo (orOk l) l.length 0 && decide ((l.length : Int) ≤ 8)

end Go.Proofs.Ytajndapolblhmaa.P
