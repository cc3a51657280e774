/- The program's ReadLoss returns what the reference's returns, for all arguments; no condition. -/
import Derived.Test.YtegjebiocgbmpaaDoorLemCore
import Derived.Test.YtegjebiocgbmpaaDoorLemDec
import Derived.Test.YtegjebiocgbmpaaDoorLemReadLoss
import Derived.Test.YtegjebiocgbmpaaDoorLemSpecReadLoss
import Derived.Test.YtegjebiocgbmpaaDoorPx10
namespace Go.Proofs.YtegjebiocgbmpaaDoor.Pure
open Go.RowKit Go.Proofs.YtegjebiocgbmpaaDoor.P Go.Proofs.YtegjebiocgbmpaaDoorW.PrintWords Go.Proofs.YtegjebiocgbmpaaDoorW.PrintLast Go.Proofs.YtegjebiocgbmpaaDoorW.PrintMore
set_option linter.unusedVariables false
set_option linter.unusedSimpArgs false
theorem FnExactReadLoss : laws_FnExactReadLoss.Pure := by
  intro a0 _
  obtain ⟨F, hF⟩ : ∃ F, F = 10000000 := ⟨_, rfl⟩
  refine ⟨F, ?_⟩
  unfold laws_FnExactReadLoss.f
  obtain ⟨s, rfl⟩ : ∃ s, a0 = tx s := ⟨a0.data.toList, (tx_of a0).symm⟩
  rw [tx_size]
  by_cases h : (s.length : Int) > 1048576
  · rw [if_pos h]
  · rw [if_neg h, specReadLoss_is F s (by omega) (by omega), bind_some_, implReadLoss_is F s (by omega) (by omega), bind_some_]
    unfold laws_eqLoss.f
    rw [if_pos rfl, if_pos rfl, if_pos rfl, bind_some_, if_pos rfl, bne_self_eq_false, if_neg (by simp)]

end Go.Proofs.YtegjebiocgbmpaaDoor.Pure
