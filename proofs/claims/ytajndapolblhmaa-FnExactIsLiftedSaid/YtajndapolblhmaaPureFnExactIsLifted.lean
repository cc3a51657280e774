/- The program's IsLifted returns what the reference's returns, for all arguments; no condition. -/
import Derived.Test.YtajndapolblhmaaLemCore
import Derived.Test.YtajndapolblhmaaLemEqInt
import Derived.Test.YtajndapolblhmaaLemImplIsLifted
import Derived.Test.YtajndapolblhmaaLemSpecIsLifted
import Derived.Test.YtajndapolblhmaaLemToInt
import Derived.Test.YtajndapolblhmaaPx35
namespace Go.Proofs.Ytajndapolblhmaa.Pure
open Go.RowKit Go.Proofs.Ytajndapolblhmaa.P Go.Proofs.YtajndapolblhmaaW.PrintWords Go.Proofs.YtajndapolblhmaaW.PrintLast Go.Proofs.YtajndapolblhmaaW.PrintMore
set_option linter.unusedVariables false
set_option linter.unusedSimpArgs false
theorem FnExactIsLifted : laws_FnExactIsLifted.Pure := by
  intro n u _ _ _ _ _ _
  by_cases hn : (n.length : Int) > 1048576
  · exact ⟨0, by unfold laws_FnExactIsLifted.f; rw [if_pos hn]⟩
  · by_cases hu : (u.length : Int) > 1048576
    · exact ⟨0, by unfold laws_FnExactIsLifted.f; rw [if_neg hn, if_pos hu]⟩
    · refine ⟨n.length + u.length + 10, ?_⟩
      unfold laws_FnExactIsLifted.f
      rw [if_neg hn, if_neg hu, toInt_is _ n (by omega) (by omega), bind_some_, toInt_is _ u (by omega) (by omega), bind_some_, specIsLifted_is _ n u (by omega) (by omega) (by omega), bind_some_, bind_some_, bind_some_, implIsLifted_is _ n u (by omega), bind_some_, bne_self_eq_false, if_neg (by simp), bind_some_,
        eqInt_is _ n n (by omega) (by omega), bind_some_, decide_eq_true rfl, if_pos rfl, bind_some_, eqInt_is _ u u (by omega) (by omega), bind_some_, decide_eq_true rfl, if_pos rfl]

end Go.Proofs.Ytajndapolblhmaa.Pure
