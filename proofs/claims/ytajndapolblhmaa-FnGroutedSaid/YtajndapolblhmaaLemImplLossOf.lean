/- The program's LossOf, plainly. -/
import Derived.Test.YtajndapolblhmaaLemCore
import Derived.Test.YtajndapolblhmaaLemGroutMore
import Derived.Test.YtajndapolblhmaaLemGrouts
import Derived.Test.YtajndapolblhmaaLemImplGrouts
import Derived.Test.YtajndapolblhmaaLemImplLoss
import Derived.Test.YtajndapolblhmaaPx0
import Derived.Test.YtajndapolblhmaaPx32
namespace Go.Proofs.Ytajndapolblhmaa.P
open Go.RowKit Go.Proofs.Ytajndapolblhmaa.P Go.Proofs.YtajndapolblhmaaW.PrintWords Go.Proofs.YtajndapolblhmaaW.PrintLast Go.Proofs.YtajndapolblhmaaW.PrintMore
set_option linter.unusedVariables false
set_option linter.unusedSimpArgs false
theorem implLossOf_is (k : Nat) (g : S40) (hk : 2 ≤ k) : impl_LossOf.f k g.f0 g.f1 g.f2 g.f3 = some (if grValid [g] = true then (grLoss g, true) else (0, false)) := by
  unfold impl_LossOf.f
  have e : (⟨g.f0, g.f1, g.f2, g.f3⟩ : S40) = g := rfl
  rw [e, implGrouts_is k [g] (by simp) (by simp; omega), bind_some_, implLoss_is, bind_some_]
  by_cases h : grValid [g] = true <;> simp [h]

end Go.Proofs.Ytajndapolblhmaa.P
