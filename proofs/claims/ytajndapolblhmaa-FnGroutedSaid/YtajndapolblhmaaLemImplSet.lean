/- What has set, as the program reckons it. -/
import Derived.Test.YtajndapolblhmaaLemGroutMore
import Derived.Test.YtajndapolblhmaaPx0
import Derived.Test.YtajndapolblhmaaPx16
namespace Go.Proofs.Ytajndapolblhmaa.P
open Go.RowKit Go.Proofs.Ytajndapolblhmaa.P Go.Proofs.YtajndapolblhmaaW.PrintWords Go.Proofs.YtajndapolblhmaaW.PrintLast Go.Proofs.YtajndapolblhmaaW.PrintMore
set_option linter.unusedVariables false
set_option linter.unusedSimpArgs false
theorem implSet_is (g : S40) : impl_Grout_set.f g.f0 g.f1 g.f2 g.f3 = some (grSet g) := rfl

end Go.Proofs.Ytajndapolblhmaa.P
