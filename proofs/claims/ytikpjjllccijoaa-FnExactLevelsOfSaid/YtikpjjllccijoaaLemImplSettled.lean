/- What the program asks of a settled list. -/
import Derived.Test.YtikpjjllccijoaaLemSettled
import Derived.Test.YtikpjjllccijoaaPx3
import Derived.Test.YtikpjjllccijoaaPx6
namespace Go.Proofs.Ytikpjjllccijoaa.P
open Go.RowKit Go.Proofs.Ytikpjjllccijoaa.P Go.Proofs.YtikpjjllccijoaaW.PrintWords Go.Proofs.YtikpjjllccijoaaW.PrintLast Go.Proofs.YtikpjjllccijoaaW.PrintMore
set_option linter.unusedVariables false
set_option linter.unusedSimpArgs false
theorem implSettled_is (l : List Int) : impl_isSettled.f l = some (stOk l) := by
  unfold impl_isSettled.f impl_areWithin.f impl_areWithin.all stOk
  by_cases h : (l.length : Int) = 24
  · rw [if_pos h]; simp [h]
  · rw [if_neg h]; simp [h]

end Go.Proofs.Ytikpjjllccijoaa.P
