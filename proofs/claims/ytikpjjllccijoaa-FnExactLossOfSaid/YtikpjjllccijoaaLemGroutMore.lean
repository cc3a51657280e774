/- What has set, and what is lost behind a ring, as both sides reckon it. -/
import Derived.Test.YtikpjjllccijoaaPx0
import Derived.Test.YtikpjjllccijoaaPx14
import Derived.Test.YtikpjjllccijoaaPx23
namespace Go.Proofs.Ytikpjjllccijoaa.P
open Go.RowKit Go.Proofs.Ytikpjjllccijoaa.P Go.Proofs.YtikpjjllccijoaaW.PrintWords Go.Proofs.YtikpjjllccijoaaW.PrintLast Go.Proofs.YtikpjjllccijoaaW.PrintMore
set_option linter.unusedVariables false
set_option linter.unusedSimpArgs false
def grSet (g : S49) : Int := wrap64 (Int.tdiv (wrap64 (g.f2 * (wrap64 (100 - g.f3)))) 100)
def grLoss (g : S49) : Int := if wrap64 (g.f1 - grSet g) < 0 then 0 else wrap64 (g.f1 - grSet g)
theorem l00Max_is (a b : Int) : spec_l00Max.f a b = some (if a > b then a else b) := by
  unfold spec_l00Max.f
  by_cases h : a > b <;> simp [h]
theorem specSet_is (g : S49) : spec_l07Set.f g.f0 g.f1 g.f2 g.f3 = some (grSet g) := rfl
theorem implSet_is (g : S49) : impl_Grout_set.f g.f0 g.f1 g.f2 g.f3 = some (grSet g) := rfl
theorem grLoss_spec (g : S49) : spec_l00Max.f 0 (wrap64 (g.f1 - grSet g)) = some (grLoss g) := by
  rw [l00Max_is]
  unfold grLoss
  by_cases h : wrap64 (g.f1 - grSet g) < 0 <;> simp [h]

end Go.Proofs.Ytikpjjllccijoaa.P
