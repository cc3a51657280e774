/- What is asked of a list of losses. -/
import Derived.Test.YtajndapolblhmaaLemUpTo
import Derived.Test.YtajndapolblhmaaPx0
namespace Go.Proofs.Ytajndapolblhmaa.P
open Go.RowKit Go.Proofs.Ytajndapolblhmaa.P Go.Proofs.YtajndapolblhmaaW.PrintWords Go.Proofs.YtajndapolblhmaaW.PrintLast Go.Proofs.YtajndapolblhmaaW.PrintMore
set_option linter.unusedVariables false
set_option linter.unusedSimpArgs false
def lsOk (l : List S42) (i : Nat) : Bool :=
  decide (0 ≤ (rd_T42 l i).f1 ∧ (rd_T42 l i).f1 ≤ 100000) && decide (0 ≤ (rd_T42 l i).f2 ∧ (rd_T42 l i).f2 ≤ 5) && decide ((rd_T42 l i).f2 ≤ (rd_T42 l i).f0 ∧ (rd_T42 l i).f0 ≤ wrap64 (23 - (rd_T42 l i).f2))
def lsValid (l : List S42) : Bool := upTo (lsOk l) l.length 0 && decide ((l.length : Int) ≤ 12)

end Go.Proofs.Ytajndapolblhmaa.P
