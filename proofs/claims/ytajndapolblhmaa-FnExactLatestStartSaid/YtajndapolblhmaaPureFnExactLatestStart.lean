/- The program's LatestStart returns what the reference's returns, for all arguments; no condition. -/
import Derived.Test.YtajndapolblhmaaCFnExactLatestStart2
import Derived.Test.YtajndapolblhmaaCFnExactLatestStart1
import Derived.Test.YtajndapolblhmaaCFnExactLatestStart0
namespace Go.Proofs.Ytajndapolblhmaa.Pure
open Go.RowKit Go.Proofs.Ytajndapolblhmaa.P Go.Proofs.YtajndapolblhmaaW.PrintWords Go.Proofs.YtajndapolblhmaaW.PrintLast Go.Proofs.YtajndapolblhmaaW.PrintMore
set_option linter.unusedVariables false
set_option linter.unusedSimpArgs false
theorem FnExactLatestStart : laws_FnExactLatestStart.Pure := by
  intro a b c l _ _ _ hw
  have hm : l.length ≤ 9223372036854775807 := hw.1
  by_cases hb : l.length > 1048576
  · refine ⟨0, ?_⟩
    unfold laws_FnExactLatestStart.f laws_szOrderS.f
    rw [w64 (1048576 - (l.length : Int)) (by omega) (by omega), if_pos (by omega), bind_some_, if_pos (by omega)]
  · refine ⟨l.length + 400, ?_⟩
    have hl : (l.map toOrder).length = l.length := List.length_map ..
    unfold laws_FnExactLatestStart.f laws_szOrderS.f laws_toWorks.f
    rw [w64 (1048576 - (l.length : Int)) (by omega) (by omega), if_neg (by omega), bind_some_, if_neg (by omega), bind_some_, toOrderS_is _ l (by omega) (by omega), bind_some_, specLatest_is _ _ _ _ _ (by omega) (by omega), bind_some_, bind_some_, bind_some_, implLatest_is _ _ _ _ _ (by omega) (by omega), bind_some_, if_pos rfl, bne_self_eq_false]
    simp only [laws_FnExactLatestStart.j0]
    rw [if_neg (by simp), toOrderS_is _ l (by omega) (by omega), bind_some_, eqOrderS_refl _ _ (by omega) (by omega), bind_some_, if_pos rfl]

end Go.Proofs.Ytajndapolblhmaa.Pure
