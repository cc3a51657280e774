/- What the program asks of units. -/
import Derived.Test.YtajndapolblhmaaLemCore
import Derived.Test.YtajndapolblhmaaLemRow
import Derived.Test.YtajndapolblhmaaLemWithin
import Derived.Test.YtajndapolblhmaaPx25
import Derived.Test.YtajndapolblhmaaPx3
namespace Go.Proofs.Ytajndapolblhmaa.P
open Go.RowKit Go.Proofs.Ytajndapolblhmaa.P Go.Proofs.YtajndapolblhmaaW.PrintWords Go.Proofs.YtajndapolblhmaaW.PrintLast Go.Proofs.YtajndapolblhmaaW.PrintMore
set_option linter.unusedVariables false
set_option linter.unusedSimpArgs false
theorem implUnits_is (l : List Int) : impl_isUnits.f l = some (rowOk 6 l) := by
  unfold impl_isUnits.f impl_areWithin.f impl_areWithin.all rowOk
  simp only [within_is, bind_some_, ite_tt]

end Go.Proofs.Ytajndapolblhmaa.P
