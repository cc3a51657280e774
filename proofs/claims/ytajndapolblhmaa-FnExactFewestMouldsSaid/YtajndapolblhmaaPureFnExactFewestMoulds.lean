/- The program's FewestMoulds returns what the reference's returns, for all arguments; no condition. -/
import Derived.Test.YtajndapolblhmaaLemCore
import Derived.Test.YtajndapolblhmaaLemEqOrder
import Derived.Test.YtajndapolblhmaaLemImplMoulds
import Derived.Test.YtajndapolblhmaaLemSpecMoulds
import Derived.Test.YtajndapolblhmaaLemToOrder
import Derived.Test.YtajndapolblhmaaPx39
import Derived.Test.YtajndapolblhmaaPx8
namespace Go.Proofs.Ytajndapolblhmaa.Pure
open Go.RowKit Go.Proofs.Ytajndapolblhmaa.P Go.Proofs.YtajndapolblhmaaW.PrintWords Go.Proofs.YtajndapolblhmaaW.PrintLast Go.Proofs.YtajndapolblhmaaW.PrintMore
set_option linter.unusedVariables false
set_option linter.unusedSimpArgs false
theorem FnExactFewestMoulds : laws_FnExactFewestMoulds.Pure := by
  intro b c l _ _ hw
  have hm : l.length ≤ 9223372036854775807 := hw.1
  by_cases hb : l.length > 1048576
  · refine ⟨0, ?_⟩
    unfold laws_FnExactFewestMoulds.f laws_szOrderS.f
    rw [w64 (1048576 - (l.length : Int)) (by omega) (by omega), if_pos (by omega), bind_some_, if_pos (by omega)]
  · refine ⟨l.length + 10, ?_⟩
    have hl : (l.map toOrder).length = l.length := List.length_map ..
    unfold laws_FnExactFewestMoulds.f laws_szOrderS.f
    rw [w64 (1048576 - (l.length : Int)) (by omega) (by omega), if_neg (by omega), bind_some_, if_neg (by omega), toOrderS_is _ l (by omega) (by omega), bind_some_, specMoulds_is _ _ _ _ (by omega) (by omega), bind_some_, bind_some_, implMoulds_is _ _ _ _ (by omega) (by omega), bind_some_, if_pos rfl, if_pos rfl, bne_self_eq_false]
    simp only [laws_FnExactFewestMoulds.j0]
    rw [if_neg (by simp), toOrderS_is _ l (by omega) (by omega), bind_some_, eqOrderS_refl _ _ (by omega) (by omega), bind_some_, if_pos rfl]

end Go.Proofs.Ytajndapolblhmaa.Pure
