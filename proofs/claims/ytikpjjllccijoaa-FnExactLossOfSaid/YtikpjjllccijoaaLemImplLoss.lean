/- What is lost behind a ring, as the program reckons it. -/
import Derived.Test.YtikpjjllccijoaaLemCore
import Derived.Test.YtikpjjllccijoaaLemGroutMore
import Derived.Test.YtikpjjllccijoaaPx0
import Derived.Test.YtikpjjllccijoaaPx23
namespace Go.Proofs.Ytikpjjllccijoaa.P
open Go.RowKit Go.Proofs.Ytikpjjllccijoaa.P Go.Proofs.YtikpjjllccijoaaW.PrintWords Go.Proofs.YtikpjjllccijoaaW.PrintLast Go.Proofs.YtikpjjllccijoaaW.PrintMore
set_option linter.unusedVariables false
set_option linter.unusedSimpArgs false
theorem implLoss_is (g : S49) : impl_Grout_loss.f g.f0 g.f1 g.f2 g.f3 = some (grLoss g) := by
  unfold impl_Grout_loss.f
  rw [implSet_is, bind_some_]
  unfold mx grLoss
  rfl

end Go.Proofs.Ytikpjjllccijoaa.P
