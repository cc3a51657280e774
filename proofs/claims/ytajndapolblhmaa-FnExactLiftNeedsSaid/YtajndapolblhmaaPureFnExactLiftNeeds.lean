/- The program's LiftNeeds returns what the reference's returns, for all arguments; no condition. -/
import Derived.Test.YtajndapolblhmaaLemCore
import Derived.Test.YtajndapolblhmaaLemEqInt
import Derived.Test.YtajndapolblhmaaLemHeldInt
import Derived.Test.YtajndapolblhmaaLemImplLiftNeeds
import Derived.Test.YtajndapolblhmaaLemLiftNeeds
import Derived.Test.YtajndapolblhmaaLemMarkInt
import Derived.Test.YtajndapolblhmaaLemSpecLiftNeeds
import Derived.Test.YtajndapolblhmaaLemToInt
import Derived.Test.YtajndapolblhmaaPx31
namespace Go.Proofs.Ytajndapolblhmaa.Pure
open Go.RowKit Go.Proofs.Ytajndapolblhmaa.P Go.Proofs.YtajndapolblhmaaW.PrintWords Go.Proofs.YtajndapolblhmaaW.PrintLast Go.Proofs.YtajndapolblhmaaW.PrintMore
set_option linter.unusedVariables false
set_option linter.unusedSimpArgs false
theorem FnExactLiftNeeds : laws_FnExactLiftNeeds.Pure := by
  intro l w s f _ _ _ _ _ _
  by_cases hb : (l.length : Int) > 1048576
  · exact ⟨0, by unfold laws_FnExactLiftNeeds.f; rw [if_pos hb]⟩
  · refine ⟨l.length + 50, ?_⟩
    have hl := needsP_len l w s f
    unfold laws_FnExactLiftNeeds.f
    rw [if_neg hb, toInt_is _ l (by omega) (by omega), bind_some_, specLiftNeeds_is _ l w s f (by omega) (by omega), bind_some_, bind_some_, implLiftNeeds_is _ l w s f (by omega), bind_some_, eqInt_is _ _ _ (by omega) (by omega), bind_some_, decide_eq_true rfl, if_pos rfl, bne_self_eq_false]
    simp only [laws_FnExactLiftNeeds.j0]
    rw [if_neg (by simp), toInt_is _ l (by omega) (by omega), bind_some_, eqInt_is _ l l (by omega) (by omega), bind_some_, decide_eq_true rfl, if_pos rfl, markInt_is _ _ 1 (by omega) (by omega) (by omega), bind_some_, if_neg (by omega), eqInt_is _ _ _ (by omega) (by omega), bind_some_, decide_eq_true rfl, if_pos rfl, bne_self_eq_false]
    simp only [laws_FnExactLiftNeeds.j1]
    rw [if_neg (by simp), markInt_is _ _ 1 (by omega) (by omega) (by omega), bind_some_, heldInt_is _ _ 1 (by omega) (by omega) (by omega), bind_some_, if_neg (by omega), if_pos rfl,
      toInt_is _ l (by omega) (by omega), bind_some_, implLiftNeeds_is _ l w s f (by omega), bind_some_, eqInt_is _ _ _ (by omega) (by omega), bind_some_, decide_eq_true rfl, if_pos rfl, bne_self_eq_false]
    simp only [laws_FnExactLiftNeeds.j2]
    rw [if_neg (by simp), heldInt_is _ _ 1 (by omega) (by omega) (by omega), bind_some_, if_neg (by omega), if_pos rfl]

end Go.Proofs.Ytajndapolblhmaa.Pure
