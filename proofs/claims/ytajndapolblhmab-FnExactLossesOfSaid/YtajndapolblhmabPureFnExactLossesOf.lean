/- The program's LossesOf returns what the reference's returns, for all arguments; no condition. -/
import Derived.Test.YtajndapolblhmabCFnExactLossesOf3
import Derived.Test.YtajndapolblhmabCFnExactLossesOf1
namespace Go.Proofs.Ytajndapolblhmab.Pure
open Go.RowKit Go.Proofs.Ytajndapolblhmab.P Go.Proofs.YtajndapolblhmabW.PrintWords Go.Proofs.YtajndapolblhmabW.PrintLast Go.Proofs.YtajndapolblhmabW.PrintMore
set_option linter.unusedVariables false
set_option linter.unusedSimpArgs false
theorem FnExactLossesOf : laws_FnExactLossesOf.Pure := by
  intro l w hw _
  have hm : l.length ≤ 9223372036854775807 := hw.1
  by_cases hb : l.length > 1048576
  · refine ⟨0, ?_⟩
    unfold laws_FnExactLossesOf.f laws_szGroutS.f
    rw [w64 (1048576 - (l.length : Int)) (by omega) (by omega), if_pos (by omega), bind_some_, if_pos (by omega)]
  · refine ⟨2 * l.length + 400, ?_⟩
    have hl : (l.map toGrout).length = l.length := List.length_map ..
    obtain ⟨p, hp⟩ : ∃ p, lossesOf (l.map toGrout) w = p := ⟨_, rfl⟩
    have hpl : p.1.length ≤ l.length := by
      rw [← hp]
      unfold lossesOf
      split
      · split
        · simp
        · simp
      · simp
    unfold laws_FnExactLossesOf.f laws_szGroutS.f
    rw [w64 (1048576 - (l.length : Int)) (by omega) (by omega), if_neg (by omega), bind_some_, if_neg (by omega), toGroutS_is _ l (by omega) (by omega), bind_some_, specLossesOf_is _ _ _ (by omega) (by omega), hp, bind_some_, bind_some_, implLossesOf_is _ _ _ (by omega) (by omega), hp, bind_some_, eqLossS_refl _ _ (by omega) (by omega), bind_some_, if_pos rfl, bne_self_eq_false]
    simp only [laws_FnExactLossesOf.j0]
    rw [if_neg (by simp), toGroutS_is _ l (by omega) (by omega), bind_some_, eqGroutS_refl _ _ (by omega) (by omega), bind_some_, if_pos rfl, markGroutS_is _ _ 1 (by omega) (by omega) (by omega), bind_some_, if_neg (by omega), eqLossS_refl _ _ (by omega) (by omega), bind_some_, if_pos rfl, bne_self_eq_false]
    simp only [laws_FnExactLossesOf.j1]
    rw [if_neg (by simp), markLossS_is _ _ 1 (by omega) (by omega) (by omega), bind_some_, heldLossS_is _ _ 1 (by omega) (by omega) (by omega), bind_some_, if_neg (by omega), if_pos rfl,
      toGroutS_is _ l (by omega) (by omega), bind_some_, implLossesOf_is _ _ _ (by omega) (by omega), hp, bind_some_, eqLossS_refl _ _ (by omega) (by omega), bind_some_, if_pos rfl, bne_self_eq_false]
    simp only [laws_FnExactLossesOf.j2]
    rw [if_neg (by simp), heldLossS_is _ _ 1 (by omega) (by omega) (by omega), bind_some_, if_neg (by omega), if_pos rfl]

end Go.Proofs.Ytajndapolblhmab.Pure
