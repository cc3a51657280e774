/- The program's VolumeOf returns what the reference's returns, for all arguments; no condition. -/
import Derived.Test.YtikpjjllccijoaaLemCore
import Derived.Test.YtikpjjllccijoaaLemEqInt
import Derived.Test.YtikpjjllccijoaaLemToInt
import Derived.Test.YtikpjjllccijoaaLemVolumeOf
import Derived.Test.YtikpjjllccijoaaPx29
namespace Go.Proofs.Ytikpjjllccijoaa.Pure
open Go.RowKit Go.Proofs.Ytikpjjllccijoaa.P Go.Proofs.YtikpjjllccijoaaW.PrintWords Go.Proofs.YtikpjjllccijoaaW.PrintLast Go.Proofs.YtikpjjllccijoaaW.PrintMore
set_option linter.unusedVariables false
set_option linter.unusedSimpArgs false
theorem FnExactVolumeOf : laws_FnExactVolumeOf.Pure := by
  intro l _ _ _
  by_cases hb : (l.length : Int) > 1048576
  · exact ⟨0, by unfold laws_FnExactVolumeOf.f; rw [if_pos hb]⟩
  · refine ⟨l.length + 10, ?_⟩
    unfold laws_FnExactVolumeOf.f
    rw [if_neg hb, toInt_is _ l (by omega) (by omega), bind_some_, specVol_is _ l (by omega) (by omega), bind_some_, bind_some_, implVol_is _ l (by omega) (by omega), bind_some_, if_pos rfl]
    simp only [laws_FnExactVolumeOf.j0, bne_self_eq_false]
    rw [if_neg (by simp), toInt_is _ l (by omega) (by omega), bind_some_, eqInt_is _ l l (by omega) (by omega), bind_some_]
    simp

end Go.Proofs.Ytikpjjllccijoaa.Pure
