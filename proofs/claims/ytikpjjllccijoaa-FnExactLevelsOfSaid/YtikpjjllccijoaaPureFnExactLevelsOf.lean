/- The program's LevelsOf returns what the reference's returns, for all arguments; no condition. -/
import Derived.Test.YtikpjjllccijoaaLemCore
import Derived.Test.YtikpjjllccijoaaLemEqInt
import Derived.Test.YtikpjjllccijoaaLemHeldInt
import Derived.Test.YtikpjjllccijoaaLemLevelsOf
import Derived.Test.YtikpjjllccijoaaLemMarkInt
import Derived.Test.YtikpjjllccijoaaLemToInt
import Derived.Test.YtikpjjllccijoaaPx35
namespace Go.Proofs.Ytikpjjllccijoaa.Pure
open Go.RowKit Go.Proofs.Ytikpjjllccijoaa.P Go.Proofs.YtikpjjllccijoaaW.PrintWords Go.Proofs.YtikpjjllccijoaaW.PrintLast Go.Proofs.YtikpjjllccijoaaW.PrintMore
set_option linter.unusedVariables false
set_option linter.unusedSimpArgs false
theorem FnExactLevelsOf : laws_FnExactLevelsOf.Pure := by
  intro l w s _ _ _ _ _
  by_cases hb : (l.length : Int) > 1048576
  · exact ⟨0, by unfold laws_FnExactLevelsOf.f; rw [if_pos hb]⟩
  · refine ⟨l.length + 50, ?_⟩
    have hl : (lvOf l w s).1.length ≤ l.length := by
      unfold lvOf
      split <;> simp
    unfold laws_FnExactLevelsOf.f
    rw [if_neg hb, toInt_is _ l (by omega) (by omega), bind_some_, specLv_is _ l w s (by omega) (by omega), bind_some_, bind_some_, implLv_is _ l w s (by omega), bind_some_, eqInt_is _ _ _ (by omega) (by omega), bind_some_, decide_eq_true rfl, if_pos rfl, bne_self_eq_false]
    simp only [laws_FnExactLevelsOf.j0]
    rw [if_neg (by simp), toInt_is _ l (by omega) (by omega), bind_some_, eqInt_is _ l l (by omega) (by omega), bind_some_, decide_eq_true rfl, if_pos rfl, markInt_is _ _ 1 (by omega) (by omega) (by omega), bind_some_, if_neg (by omega), eqInt_is _ _ _ (by omega) (by omega), bind_some_, decide_eq_true rfl, if_pos rfl, bne_self_eq_false]
    simp only [laws_FnExactLevelsOf.j1]
    rw [if_neg (by simp), markInt_is _ _ 1 (by omega) (by omega) (by omega), bind_some_, heldInt_is _ _ 1 (by omega) (by omega) (by omega), bind_some_, if_neg (by omega), if_pos rfl,
      toInt_is _ l (by omega) (by omega), bind_some_, implLv_is _ l w s (by omega), bind_some_, eqInt_is _ _ _ (by omega) (by omega), bind_some_, decide_eq_true rfl, if_pos rfl, bne_self_eq_false]
    simp only [laws_FnExactLevelsOf.j2]
    rw [if_neg (by simp), heldInt_is _ _ 1 (by omega) (by omega) (by omega), bind_some_, if_neg (by omega), if_pos rfl]

end Go.Proofs.Ytikpjjllccijoaa.Pure
