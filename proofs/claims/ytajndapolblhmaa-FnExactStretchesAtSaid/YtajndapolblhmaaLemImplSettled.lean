/- What the program asks of a settled list. -/
import Derived.Test.YtajndapolblhmaaLemSettled
import Derived.Test.YtajndapolblhmaaPx12
import Derived.Test.YtajndapolblhmaaPx3
namespace Go.Proofs.Ytajndapolblhmaa.P
open Go.RowKit Go.Proofs.Ytajndapolblhmaa.P Go.Proofs.YtajndapolblhmaaW.PrintWords Go.Proofs.YtajndapolblhmaaW.PrintLast Go.Proofs.YtajndapolblhmaaW.PrintMore
set_option linter.unusedVariables false
set_option linter.unusedSimpArgs false
theorem implSettled_is (l : List Int) : impl_isSettled.f l = some (stOk l) := by
  unfold impl_isSettled.f impl_areWithin.f impl_areWithin.all stOk
  by_cases h : (l.length : Int) = 24
  · rw [if_pos h]; simp [h]
  · rw [if_neg h]; simp [h]

end Go.Proofs.Ytajndapolblhmaa.P
