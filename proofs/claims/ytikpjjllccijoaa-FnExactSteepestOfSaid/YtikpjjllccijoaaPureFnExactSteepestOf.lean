/- The program's SteepestOf returns what the reference's returns, for all arguments; no condition. -/
import Derived.Test.YtikpjjllccijoaaLemCore
import Derived.Test.YtikpjjllccijoaaLemEqInt
import Derived.Test.YtikpjjllccijoaaLemSteepestOf
import Derived.Test.YtikpjjllccijoaaLemToInt
import Derived.Test.YtikpjjllccijoaaPx32
namespace Go.Proofs.Ytikpjjllccijoaa.Pure
open Go.RowKit Go.Proofs.Ytikpjjllccijoaa.P Go.Proofs.YtikpjjllccijoaaW.PrintWords Go.Proofs.YtikpjjllccijoaaW.PrintLast Go.Proofs.YtikpjjllccijoaaW.PrintMore
set_option linter.unusedVariables false
set_option linter.unusedSimpArgs false
theorem FnExactSteepestOf : laws_FnExactSteepestOf.Pure := by
  intro l _ _ _
  by_cases hb : (l.length : Int) > 1048576
  · exact ⟨0, by unfold laws_FnExactSteepestOf.f; rw [if_pos hb]⟩
  · refine ⟨l.length + 50, ?_⟩
    unfold laws_FnExactSteepestOf.f
    rw [if_neg hb, toInt_is _ l (by omega) (by omega), bind_some_, specSteep_is _ l (by omega) (by omega) (by omega), bind_some_, bind_some_, implSteep_is _ l (by omega), bind_some_, if_pos rfl, if_pos rfl]
    simp only [laws_FnExactSteepestOf.j0, bne_self_eq_false]
    rw [if_neg (by simp), toInt_is _ l (by omega) (by omega), bind_some_, eqInt_is _ l l (by omega) (by omega), bind_some_]
    simp

end Go.Proofs.Ytikpjjllccijoaa.Pure
