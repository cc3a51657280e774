/- The greater one of two numbers, as the reference tells it. -/
import Derived.Test.YtajndapolblhmaaPx13
namespace Go.Proofs.Ytajndapolblhmaa.P
open Go.RowKit Go.Proofs.Ytajndapolblhmaa.P Go.Proofs.YtajndapolblhmaaW.PrintWords Go.Proofs.YtajndapolblhmaaW.PrintLast Go.Proofs.YtajndapolblhmaaW.PrintMore
set_option linter.unusedVariables false
set_option linter.unusedSimpArgs false
theorem l00Max_is (a b : Int) : spec_l00Max.f a b = some (if a > b then a else b) := by
  unfold spec_l00Max.f
  by_cases h : a > b <;> simp [h]

end Go.Proofs.Ytajndapolblhmaa.P
