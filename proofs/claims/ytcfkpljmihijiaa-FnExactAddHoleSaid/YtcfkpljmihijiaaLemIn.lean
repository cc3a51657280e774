/- A number lies in a range, as the reference asks it. -/
import Derived.Test.YtcfkpljmihijiaaPx1
namespace Go.Proofs.Ytcfkpljmihijiaa.P
open Go.RowKit Go.Proofs.Ytcfkpljmihijiaa.P Go.Proofs.YtcfkpljmihijiaaW.PrintWords Go.Proofs.YtcfkpljmihijiaaW.PrintLast Go.Proofs.YtcfkpljmihijiaaW.PrintMore
set_option linter.unusedVariables false
set_option linter.unusedSimpArgs false
theorem in_is (a b c : Int) : spec_l00In.f a b c = some (decide (b ≤ a ∧ a ≤ c)) := by
  unfold spec_l00In.f
  by_cases h : b ≤ a <;> simp [h]

end Go.Proofs.Ytcfkpljmihijiaa.P

