/- What is asked of a head. -/
import Derived.Test.YtajndapolblhmabLemRises
import Derived.Test.YtajndapolblhmabLemUpTo
import Derived.Test.YtajndapolblhmabPx0
import Derived.Test.YtajndapolblhmabPx2
namespace Go.Proofs.Ytajndapolblhmab.P
open Go.RowKit Go.Proofs.Ytajndapolblhmab.P Go.Proofs.YtajndapolblhmabW.PrintWords Go.Proofs.YtajndapolblhmabW.PrintLast Go.Proofs.YtajndapolblhmabW.PrintMore
set_option linter.unusedVariables false
set_option linter.unusedSimpArgs false
def cuOk (cs : List S79) (i : Nat) : Bool := decide (1 ≤ (rd_T79 cs i).f0 ∧ (rd_T79 cs i).f0 ≤ 100) && decide (1 ≤ (rd_T79 cs i).f1 ∧ (rd_T79 cs i).f1 ≤ 1000000)
def hdOk (cs : List S79) (fc st : List Int) (x y : Int) : Bool :=
  decide (1 ≤ (cs.length : Int) ∧ (cs.length : Int) ≤ 5) && (decide ((fc.length : Int) ≤ 60) && (decide ((st.length : Int) ≤ 8) && (rises st 0 (wrap64 ((fc.length : Int) - 1)) && (upTo (cuOk cs) cs.length 0 && (impl_areWithin.all 0 100 fc && (decide (0 ≤ x ∧ x ≤ 10000) && decide (0 ≤ y ∧ y ≤ 10000)))))))

end Go.Proofs.Ytajndapolblhmab.P
