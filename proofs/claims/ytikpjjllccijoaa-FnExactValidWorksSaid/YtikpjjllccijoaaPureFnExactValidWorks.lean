/- The program's ValidWorks returns what the reference's returns, for all arguments; no condition. -/
import Derived.Test.YtikpjjllccijoaaLemIn
import Derived.Test.YtikpjjllccijoaaLemWithin
import Derived.Test.YtikpjjllccijoaaPx16
import Derived.Test.YtikpjjllccijoaaPx7
namespace Go.Proofs.Ytikpjjllccijoaa.Pure
open Go.RowKit Go.Proofs.Ytikpjjllccijoaa.P Go.Proofs.YtikpjjllccijoaaW.PrintWords Go.Proofs.YtikpjjllccijoaaW.PrintLast Go.Proofs.YtikpjjllccijoaaW.PrintMore
theorem FnExactValidWorks : laws_FnExactValidWorks.Pure := by
  intro a b c _ _ _
  unfold laws_FnExactValidWorks.f laws_toWorks.f spec_ValidWorks.f impl_ValidWorks.f spec_l09Works.f spec_l09Times.f impl_isRhythm.f
  simp only [within_is, in_is, Option.bind_some]
  by_cases h1 : (1 ≤ a ∧ a ≤ 200) <;> by_cases h2 : (1 ≤ b ∧ b ≤ 10) <;> simp [h1, h2]

end Go.Proofs.Ytikpjjllccijoaa.Pure
