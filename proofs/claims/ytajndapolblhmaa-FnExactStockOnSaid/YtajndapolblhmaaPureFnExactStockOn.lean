/- The program's StockOn returns what the reference's returns, for all arguments; no condition. -/
import Derived.Test.YtajndapolblhmaaCFnExactStockOn2
import Derived.Test.YtajndapolblhmaaCFnExactStockOn1
import Derived.Test.YtajndapolblhmaaCFnExactStockOn0
namespace Go.Proofs.Ytajndapolblhmaa.Pure
open Go.RowKit Go.Proofs.Ytajndapolblhmaa.P Go.Proofs.YtajndapolblhmaaW.PrintWords Go.Proofs.YtajndapolblhmaaW.PrintLast Go.Proofs.YtajndapolblhmaaW.PrintMore
set_option linter.unusedVariables false
set_option linter.unusedSimpArgs false
theorem FnExactStockOn : laws_FnExactStockOn.Pure := by
  intro a b c l day _ _ _ hw _
  have hm : l.length ≤ 9223372036854775807 := hw.1
  by_cases hb : l.length > 1048576
  · refine ⟨0, ?_⟩
    unfold laws_FnExactStockOn.f laws_szOrderS.f
    rw [w64 (1048576 - (l.length : Int)) (by omega) (by omega), if_pos (by omega), bind_some_, if_pos (by omega)]
  · refine ⟨2 * l.length + 400, ?_⟩
    have hl : (l.map toOrder).length = l.length := List.length_map ..
    unfold laws_FnExactStockOn.f laws_szOrderS.f laws_toWorks.f
    rw [w64 (1048576 - (l.length : Int)) (by omega) (by omega), if_neg (by omega), bind_some_, if_neg (by omega), bind_some_, toOrderS_is _ l (by omega) (by omega), bind_some_, specStock_is _ _ _ _ _ _ (by omega) (by omega), bind_some_, bind_some_, bind_some_, implStock_is _ _ _ _ _ _ (by omega) (by omega), bind_some_, if_pos rfl, bne_self_eq_false]
    simp only [laws_FnExactStockOn.j0]
    rw [if_neg (by simp), toOrderS_is _ l (by omega) (by omega), bind_some_, eqOrderS_refl _ _ (by omega) (by omega), bind_some_, if_pos rfl]

end Go.Proofs.Ytajndapolblhmaa.Pure
