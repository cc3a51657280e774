/- The program's LossOf returns what the reference's returns, for all arguments; no condition. -/
import Derived.Test.YtikpjjllccijoaaLemCore
import Derived.Test.YtikpjjllccijoaaLemGroutMore
import Derived.Test.YtikpjjllccijoaaLemGrouts
import Derived.Test.YtikpjjllccijoaaLemImplGrouts
import Derived.Test.YtikpjjllccijoaaLemImplLoss
import Derived.Test.YtikpjjllccijoaaLemSpecGrouts
import Derived.Test.YtikpjjllccijoaaPx0
import Derived.Test.YtikpjjllccijoaaPx12
import Derived.Test.YtikpjjllccijoaaPx23
namespace Go.Proofs.Ytikpjjllccijoaa.Pure
open Go.RowKit Go.Proofs.Ytikpjjllccijoaa.P Go.Proofs.YtikpjjllccijoaaW.PrintWords Go.Proofs.YtikpjjllccijoaaW.PrintLast Go.Proofs.YtikpjjllccijoaaW.PrintMore
set_option linter.unusedVariables false
set_option linter.unusedSimpArgs false
theorem FnExactLossOf : laws_FnExactLossOf.Pure := by
  intro a b c d _ _ _ _
  refine ⟨10, ?_⟩
  obtain ⟨g, hg⟩ : ∃ g : S49, g = ⟨a, b, c, d⟩ := ⟨_, rfl⟩
  have e1 : spec_LossOf.f 10 a b c d = some (if grValid [g] = true then (grLoss g, true) else (0, false)) := by
    unfold spec_LossOf.f
    rw [← hg, specGrouts_is 10 [g] (by simp) (by simp), bind_some_]
    have h1 : spec_l07Set.f a b c d = some (grSet g) := by rw [hg]; exact specSet_is ⟨a, b, c, d⟩
    have h2 := grLoss_spec g
    have h3 : g.f1 = b := by rw [hg]
    rw [h3] at h2
    rw [h1, bind_some_, h2, bind_some_]
    by_cases h : grValid [g] = true <;> simp [h]
  have e2 : impl_LossOf.f 10 a b c d = some (if grValid [g] = true then (grLoss g, true) else (0, false)) := by
    unfold impl_LossOf.f
    rw [← hg, implGrouts_is 10 [g] (by simp) (by simp), bind_some_]
    have h1 : impl_Grout_loss.f a b c d = some (grLoss g) := by rw [hg]; exact implLoss_is ⟨a, b, c, d⟩
    rw [h1, bind_some_]
    by_cases h : grValid [g] = true <;> simp [h]
  unfold laws_FnExactLossOf.f laws_toGrout.f
  simp only [bind_some_, e1, e2]
  simp

end Go.Proofs.Ytikpjjllccijoaa.Pure
