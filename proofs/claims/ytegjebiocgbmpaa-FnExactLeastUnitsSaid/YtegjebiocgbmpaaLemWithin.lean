/- A number lies in a range, as the program asks it. -/
import Derived.Test.YtegjebiocgbmpaaPx1
namespace Go.Proofs.Ytegjebiocgbmpaa.P
open Go.RowKit Go.Proofs.Ytegjebiocgbmpaa.P Go.Proofs.YtegjebiocgbmpaaW.PrintWords Go.Proofs.YtegjebiocgbmpaaW.PrintLast Go.Proofs.YtegjebiocgbmpaaW.PrintMore
set_option linter.unusedVariables false
set_option linter.unusedSimpArgs false
theorem within_is (a b c : Int) : impl_within.f a b c = some (decide (b ≤ a ∧ a ≤ c)) := by
  unfold impl_within.f
  by_cases h : b ≤ a <;> simp [h]

end Go.Proofs.Ytegjebiocgbmpaa.P
