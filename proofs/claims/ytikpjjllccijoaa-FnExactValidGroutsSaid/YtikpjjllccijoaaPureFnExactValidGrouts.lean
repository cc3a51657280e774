/- The program's ValidGrouts returns what the reference's returns, for all arguments; no condition. -/
import Derived.Test.YtikpjjllccijoaaLemCore
import Derived.Test.YtikpjjllccijoaaLemEqGrout
import Derived.Test.YtikpjjllccijoaaLemImplGrouts
import Derived.Test.YtikpjjllccijoaaLemSpecGrouts
import Derived.Test.YtikpjjllccijoaaLemToGrout
import Derived.Test.YtikpjjllccijoaaPx33
namespace Go.Proofs.Ytikpjjllccijoaa.Pure
open Go.RowKit Go.Proofs.Ytikpjjllccijoaa.P Go.Proofs.YtikpjjllccijoaaW.PrintWords Go.Proofs.YtikpjjllccijoaaW.PrintLast Go.Proofs.YtikpjjllccijoaaW.PrintMore
set_option linter.unusedVariables false
set_option linter.unusedSimpArgs false
theorem FnExactValidGrouts : laws_FnExactValidGrouts.Pure := by
  intro l hw
  have hm : l.length ≤ 9223372036854775807 := hw.1
  by_cases hb : l.length > 1048576
  · refine ⟨0, ?_⟩
    unfold laws_FnExactValidGrouts.f laws_szGroutS.f
    rw [w64 (1048576 - (l.length : Int)) (by omega) (by omega), if_pos (by omega), bind_some_, if_pos (by omega)]
  · refine ⟨l.length + 10, ?_⟩
    have hl : (l.map toGrout).length = l.length := List.length_map ..
    unfold laws_FnExactValidGrouts.f laws_szGroutS.f spec_ValidGrouts.f
    rw [w64 (1048576 - (l.length : Int)) (by omega) (by omega), if_neg (by omega), bind_some_, if_neg (by omega), toGroutS_is _ l (by omega) (by omega), bind_some_, specGrouts_is _ _ (by omega) (by omega), bind_some_, bind_some_, bind_some_, implGrouts_is _ _ (by omega) (by omega), bind_some_, bne_self_eq_false, if_neg (by simp), bind_some_, eqGroutS_refl _ _ (by omega) (by omega), bind_some_, if_pos rfl]

end Go.Proofs.Ytikpjjllccijoaa.Pure
