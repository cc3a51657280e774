/- The program's SpareOf returns what the reference's returns, for all arguments; no condition. -/
import Derived.Test.YtajndapolblhmaaLemCore
import Derived.Test.YtajndapolblhmaaLemEqGrout
import Derived.Test.YtajndapolblhmaaLemImplSpare
import Derived.Test.YtajndapolblhmaaLemSpecSpare
import Derived.Test.YtajndapolblhmaaLemToGrout
import Derived.Test.YtajndapolblhmaaPx37
import Derived.Test.YtajndapolblhmaaPx38
namespace Go.Proofs.Ytajndapolblhmaa.Pure
open Go.RowKit Go.Proofs.Ytajndapolblhmaa.P Go.Proofs.YtajndapolblhmaaW.PrintWords Go.Proofs.YtajndapolblhmaaW.PrintLast Go.Proofs.YtajndapolblhmaaW.PrintMore
set_option linter.unusedVariables false
set_option linter.unusedSimpArgs false
theorem FnExactSpareOf : laws_FnExactSpareOf.Pure := by
  intro l hw
  have hm : l.length ≤ 9223372036854775807 := hw.1
  by_cases hb : l.length > 1048576
  · refine ⟨0, ?_⟩
    unfold laws_FnExactSpareOf.f laws_szGroutS.f
    rw [w64 (1048576 - (l.length : Int)) (by omega) (by omega), if_pos (by omega), bind_some_, if_pos (by omega)]
  · refine ⟨l.length + 10, ?_⟩
    have hl : (l.map toGrout).length = l.length := List.length_map ..
    unfold laws_FnExactSpareOf.f laws_szGroutS.f
    rw [w64 (1048576 - (l.length : Int)) (by omega) (by omega), if_neg (by omega), bind_some_, if_neg (by omega), toGroutS_is _ l (by omega) (by omega), bind_some_, specSpare_is _ _ (by omega) (by omega), bind_some_, bind_some_, implSpare_is _ _ (by omega) (by omega), bind_some_, if_pos rfl, bne_self_eq_false]
    simp only [laws_FnExactSpareOf.j0]
    rw [if_neg (by simp), toGroutS_is _ l (by omega) (by omega), bind_some_, eqGroutS_refl _ _ (by omega) (by omega), bind_some_, if_pos rfl]

end Go.Proofs.Ytajndapolblhmaa.Pure
