/- The program's LiftsOf returns what the reference's returns, for all arguments; no condition. -/
import Derived.Test.YtajndapolblhmaaLemCore
import Derived.Test.YtajndapolblhmaaLemEqInt
import Derived.Test.YtajndapolblhmaaLemHeldInt
import Derived.Test.YtajndapolblhmaaLemImplLiftsOf
import Derived.Test.YtajndapolblhmaaLemLifts
import Derived.Test.YtajndapolblhmaaLemMarkInt
import Derived.Test.YtajndapolblhmaaLemSpecLiftsOf
import Derived.Test.YtajndapolblhmaaLemToInt
import Derived.Test.YtajndapolblhmaaPx36
namespace Go.Proofs.Ytajndapolblhmaa.Pure
open Go.RowKit Go.Proofs.Ytajndapolblhmaa.P Go.Proofs.YtajndapolblhmaaW.PrintWords Go.Proofs.YtajndapolblhmaaW.PrintLast Go.Proofs.YtajndapolblhmaaW.PrintMore
set_option linter.unusedVariables false
set_option linter.unusedSimpArgs false
theorem FnExactLiftsOf : laws_FnExactLiftsOf.Pure := by
  intro l _ _ _
  by_cases hb : (l.length : Int) > 1048576
  · exact ⟨0, by unfold laws_FnExactLiftsOf.f; rw [if_pos hb]⟩
  · refine ⟨l.length + 50, ?_⟩
    have e : liftsPI l = liftsP l := rfl
    have hl : (liftsP l).1.length ≤ l.length := by
      unfold liftsP
      split <;> simp [liftsOf_len]
    unfold laws_FnExactLiftsOf.f
    rw [if_neg hb, toInt_is _ l (by omega) (by omega), bind_some_, specLiftsOf_is _ l (by omega) (by omega), bind_some_, bind_some_, implLiftsOf_is _ l (by omega), bind_some_, e, eqInt_is _ _ _ (by omega) (by omega), bind_some_, decide_eq_true rfl, if_pos rfl, bne_self_eq_false]
    simp only [laws_FnExactLiftsOf.j0]
    rw [if_neg (by simp), toInt_is _ l (by omega) (by omega), bind_some_, eqInt_is _ l l (by omega) (by omega), bind_some_, decide_eq_true rfl, if_pos rfl, markInt_is _ _ 1 (by omega) (by omega) (by omega), bind_some_, if_neg (by omega), eqInt_is _ _ _ (by omega) (by omega), bind_some_, decide_eq_true rfl, if_pos rfl, bne_self_eq_false]
    simp only [laws_FnExactLiftsOf.j1]
    rw [if_neg (by simp), markInt_is _ _ 1 (by omega) (by omega) (by omega), bind_some_, heldInt_is _ _ 1 (by omega) (by omega) (by omega), bind_some_, if_neg (by omega), if_pos rfl,
      toInt_is _ l (by omega) (by omega), bind_some_, implLiftsOf_is _ l (by omega), bind_some_, e, eqInt_is _ _ _ (by omega) (by omega), bind_some_, decide_eq_true rfl, if_pos rfl, bne_self_eq_false]
    simp only [laws_FnExactLiftsOf.j2]
    rw [if_neg (by simp), heldInt_is _ _ 1 (by omega) (by omega) (by omega), bind_some_, if_neg (by omega), if_pos rfl]

end Go.Proofs.Ytajndapolblhmaa.Pure
