/- What the program asks of needs. -/
import Derived.Test.YtajndapolblhmaaLemCore
import Derived.Test.YtajndapolblhmaaLemRow
import Derived.Test.YtajndapolblhmaaLemWithin
import Derived.Test.YtajndapolblhmaaPx3
import Derived.Test.YtajndapolblhmaaPx35
namespace Go.Proofs.Ytajndapolblhmaa.P
open Go.RowKit Go.Proofs.Ytajndapolblhmaa.P Go.Proofs.YtajndapolblhmaaW.PrintWords Go.Proofs.YtajndapolblhmaaW.PrintLast Go.Proofs.YtajndapolblhmaaW.PrintMore
set_option linter.unusedVariables false
set_option linter.unusedSimpArgs false
theorem implNeedsRow_is (l : List Int) : impl_areNeeds.f l = some (rowOk 12 l) := by
  unfold impl_areNeeds.f impl_areWithin.f impl_areWithin.all rowOk
  simp only [within_is, bind_some_, ite_tt]

end Go.Proofs.Ytajndapolblhmaa.P
