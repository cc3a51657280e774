/- The program's LossText returns what the reference's returns, for all arguments; no condition. -/
import Derived.Test.YtegjebiocgbmpaaDoorLemCore
import Derived.Test.YtegjebiocgbmpaaDoorLemLossText
import Derived.Test.YtegjebiocgbmpaaDoorLemLosses
import Derived.Test.YtegjebiocgbmpaaDoorLemSpecLosses
import Derived.Test.YtegjebiocgbmpaaDoorPx5
namespace Go.Proofs.YtegjebiocgbmpaaDoor.Pure
open Go.RowKit Go.Proofs.YtegjebiocgbmpaaDoor.P Go.Proofs.YtegjebiocgbmpaaDoorW.PrintWords Go.Proofs.YtegjebiocgbmpaaDoorW.PrintLast Go.Proofs.YtegjebiocgbmpaaDoorW.PrintMore
set_option linter.unusedVariables false
set_option linter.unusedSimpArgs false
theorem FnExactLossText : laws_FnExactLossText.Pure := by
  intro a b c ha hb hc
  have ha := wf64 ha
  have hb := wf64 hb
  have hc := wf64 hc
  refine ⟨100, ?_⟩
  unfold laws_FnExactLossText.f laws_toLoss.f spec_LossText.f
  rw [bind_some_]
  dsimp only
  rw [specLosses_is 100 _ (by simp) (by simp), bind_some_]
  by_cases hv : lsValid [⟨a, b, c⟩] = true
  · rw [if_pos hv, specLossT_is 100 a b c ha hb hc (by omega), bind_some_, bind_some_, bind_some_]
    dsimp only
    rw [implLossT_is 100 a b c ha hb hc (by omega), if_pos hv, bind_some_]
    dsimp only
    rw [if_pos rfl, if_neg (by decide)]
  · rw [if_neg hv, bind_some_, bind_some_]
    dsimp only
    rw [implLossT_is 100 a b c ha hb hc (by omega), if_neg hv, bind_some_]
    dsimp only
    rw [if_pos rfl, if_neg (by decide)]

end Go.Proofs.YtegjebiocgbmpaaDoor.Pure
