/- What has set, as the reference reckons it. -/
import Derived.Test.YtajndapolblhmaaLemGroutMore
import Derived.Test.YtajndapolblhmaaLemSpecMax
import Derived.Test.YtajndapolblhmaaPx0
import Derived.Test.YtajndapolblhmaaPx13
import Derived.Test.YtajndapolblhmaaPx37
namespace Go.Proofs.Ytajndapolblhmaa.P
open Go.RowKit Go.Proofs.Ytajndapolblhmaa.P Go.Proofs.YtajndapolblhmaaW.PrintWords Go.Proofs.YtajndapolblhmaaW.PrintLast Go.Proofs.YtajndapolblhmaaW.PrintMore
set_option linter.unusedVariables false
set_option linter.unusedSimpArgs false
theorem specSet_is (g : S40) : spec_l07Set.f g.f0 g.f1 g.f2 g.f3 = some (grSet g) := rfl
theorem grLoss_spec (g : S40) : spec_l00Max.f 0 (wrap64 (g.f1 - grSet g)) = some (grLoss g) := by
  rw [l00Max_is]
  unfold grLoss
  by_cases h : wrap64 (g.f1 - grSet g) < 0 <;> simp [h]

end Go.Proofs.Ytajndapolblhmaa.P
