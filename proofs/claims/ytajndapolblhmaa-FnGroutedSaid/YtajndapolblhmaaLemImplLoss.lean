/- What is lost behind a ring, as the program reckons it. -/
import Derived.Test.YtajndapolblhmaaLemCore
import Derived.Test.YtajndapolblhmaaLemGroutMore
import Derived.Test.YtajndapolblhmaaLemImplSet
import Derived.Test.YtajndapolblhmaaPx0
import Derived.Test.YtajndapolblhmaaPx32
namespace Go.Proofs.Ytajndapolblhmaa.P
open Go.RowKit Go.Proofs.Ytajndapolblhmaa.P Go.Proofs.YtajndapolblhmaaW.PrintWords Go.Proofs.YtajndapolblhmaaW.PrintLast Go.Proofs.YtajndapolblhmaaW.PrintMore
set_option linter.unusedVariables false
set_option linter.unusedSimpArgs false
theorem implLoss_is (g : S40) : impl_Grout_loss.f g.f0 g.f1 g.f2 g.f3 = some (grLoss g) := by
  unfold impl_Grout_loss.f
  rw [implSet_is, bind_some_]
  unfold mx grLoss
  rfl

end Go.Proofs.Ytajndapolblhmaa.P
