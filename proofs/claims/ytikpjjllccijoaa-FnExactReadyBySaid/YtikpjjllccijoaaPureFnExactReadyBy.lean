/- The program's ReadyBy returns what the reference's returns, for all arguments; no condition. -/
import Derived.Test.YtikpjjllccijoaaLemCore
import Derived.Test.YtikpjjllccijoaaLemIn
import Derived.Test.YtikpjjllccijoaaLemWithin
import Derived.Test.YtikpjjllccijoaaPx17
import Derived.Test.YtikpjjllccijoaaPx7
import Derived.Test.YtikpjjllccijoaaPx8
namespace Go.Proofs.Ytikpjjllccijoaa.Pure
open Go.RowKit Go.Proofs.Ytikpjjllccijoaa.P Go.Proofs.YtikpjjllccijoaaW.PrintWords Go.Proofs.YtikpjjllccijoaaW.PrintLast Go.Proofs.YtikpjjllccijoaaW.PrintMore
set_option linter.unusedVariables false
set_option linter.unusedSimpArgs false
theorem FnExactReadyBy : laws_FnExactReadyBy.Pure := by
  intro a b c d _ _ _ _
  have hs : spec_ReadyBy.f a b c d = impl_ReadyBy.f a b c d := by
    unfold spec_ReadyBy.f impl_ReadyBy.f spec_l09Works.f spec_l09Times.f impl_ValidWorks.f impl_isRhythm.f spec_l09Day.f impl_Works_ready.f
    simp only [in_is, within_is, bind_some_, ite_tt]
    by_cases h1 : (1 ≤ a ∧ a ≤ 200)
    · by_cases h2 : (1 ≤ b ∧ b ≤ 10)
      · by_cases h3 : (0 ≤ c ∧ c ≤ 40)
        · by_cases h4 : (0 ≤ d ∧ d ≤ 200)
          · have e : spec_l09Rounds.f b c d = impl_casts.f b c d := by
              unfold spec_l09Rounds.f impl_casts.f mx
              rw [w64 (d - c) (by omega) (by omega)]
              by_cases h5 : d < c
              · rw [if_pos h5, if_neg (show ¬ b = 0 by omega), if_pos (show d - c < 0 by omega), Int.zero_ediv, w64 0 (by omega) (by omega)]
              · rw [if_neg h5, if_neg (show ¬ b = 0 by omega), if_neg (show ¬ b = 0 by omega), if_neg (show ¬ d - c < 0 by omega), Int.tdiv_eq_ediv_of_nonneg (by omega)]
            rw [e]
            simp only [h1, h2, h3, h4]
            cases impl_casts.f b c d <;> rfl
          · simp [h1, h2, h3, h4]
        · simp [h1, h2, h3]
      · simp [h1, h2]
    · simp [h1]
  obtain ⟨r, hr⟩ : ∃ r, impl_ReadyBy.f a b c d = some r := by
    unfold impl_ReadyBy.f impl_ValidWorks.f impl_isRhythm.f impl_Works_ready.f impl_casts.f
    simp only [within_is, bind_some_, ite_tt]
    by_cases h2 : (1 ≤ b ∧ b ≤ 10)
    · rw [if_neg (show ¬ b = 0 by omega), bind_some_]
      repeat (first | exact ⟨_, rfl⟩ | split)
    · simp [h2]
  unfold laws_FnExactReadyBy.f laws_toWorks.f
  simp only [bind_some_, hs, hr]
  simp

end Go.Proofs.Ytikpjjllccijoaa.Pure
