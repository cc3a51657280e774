/- What the program asks of needs. -/
import Derived.Test.YtegjebiocgbmpaaLemCore
import Derived.Test.YtegjebiocgbmpaaLemRow
import Derived.Test.YtegjebiocgbmpaaLemWithin
import Derived.Test.YtegjebiocgbmpaaPx1
namespace Go.Proofs.Ytegjebiocgbmpaa.P
open Go.RowKit Go.Proofs.Ytegjebiocgbmpaa.P Go.Proofs.YtegjebiocgbmpaaW.PrintWords Go.Proofs.YtegjebiocgbmpaaW.PrintLast Go.Proofs.YtegjebiocgbmpaaW.PrintMore
set_option linter.unusedVariables false
set_option linter.unusedSimpArgs false
theorem implNeedsRow_is (l : List Int) : impl_areNeeds.f l = some (rowOk 12 l) := by
  unfold impl_areNeeds.f impl_areWithin.f impl_areWithin.all rowOk
  simp only [within_is, bind_some_, ite_tt]

end Go.Proofs.Ytegjebiocgbmpaa.P
