/- The program's LeastUnits returns what the reference's returns, for all arguments; no condition. -/
import Derived.Test.YtegjebiocgbmpaaLemCore
import Derived.Test.YtegjebiocgbmpaaLemEqInt
import Derived.Test.YtegjebiocgbmpaaLemFewestU
import Derived.Test.YtegjebiocgbmpaaLemHeldInt
import Derived.Test.YtegjebiocgbmpaaLemMarkInt
import Derived.Test.YtegjebiocgbmpaaLemToInt
import Derived.Test.YtegjebiocgbmpaaPx8
namespace Go.Proofs.Ytegjebiocgbmpaa.Pure
open Go.RowKit Go.Proofs.Ytegjebiocgbmpaa.P Go.Proofs.YtegjebiocgbmpaaW.PrintWords Go.Proofs.YtegjebiocgbmpaaW.PrintLast Go.Proofs.YtegjebiocgbmpaaW.PrintMore
set_option linter.unusedVariables false
set_option linter.unusedSimpArgs false
theorem FnExactLeastUnits : laws_FnExactLeastUnits.Pure := by
  intro l _ _ _
  by_cases hb : (l.length : Int) > 1048576
  · exact ⟨0, by unfold laws_FnExactLeastUnits.f; rw [if_pos hb]⟩
  · refine ⟨l.length + 300, ?_⟩
    have hl := leastP_len l
    unfold laws_FnExactLeastUnits.f
    rw [if_neg hb, toInt_is _ l (by omega) (by omega), bind_some_, specLeast_is _ l (by omega) (by omega), bind_some_, bind_some_, implLeast_is l, bind_some_, eqInt_is _ _ _ (by omega) (by omega), bind_some_, decide_eq_true rfl, if_pos rfl, if_pos rfl, bne_self_eq_false]
    simp only [laws_FnExactLeastUnits.j0]
    rw [if_neg (by simp), toInt_is _ l (by omega) (by omega), bind_some_, eqInt_is _ l l (by omega) (by omega), bind_some_, decide_eq_true rfl, if_pos rfl, markInt_is _ _ 1 (by omega) (by omega) (by omega), bind_some_, if_neg (by omega), eqInt_is _ _ _ (by omega) (by omega), bind_some_, decide_eq_true rfl, if_pos rfl, if_pos trivial, bne_self_eq_false]
    simp only [laws_FnExactLeastUnits.j1]
    rw [if_neg (by simp), markInt_is _ _ 1 (by omega) (by omega) (by omega), bind_some_, heldInt_is _ _ 1 (by omega) (by omega) (by omega), bind_some_, if_neg (by omega), if_pos rfl,
      toInt_is _ l (by omega) (by omega), bind_some_, implLeast_is l, bind_some_, eqInt_is _ _ _ (by omega) (by omega), bind_some_, decide_eq_true rfl, if_pos rfl, if_pos rfl, bne_self_eq_false]
    simp only [laws_FnExactLeastUnits.j2]
    rw [if_neg (by simp), heldInt_is _ _ 1 (by omega) (by omega) (by omega), bind_some_, if_neg (by omega), if_pos rfl]

end Go.Proofs.Ytegjebiocgbmpaa.Pure
