/- The program's TroughOf returns what the reference's returns, for all arguments; no condition. -/
import Derived.Test.YtikpjjllccijoaaLemCore
import Derived.Test.YtikpjjllccijoaaLemEqInt
import Derived.Test.YtikpjjllccijoaaLemHeldInt
import Derived.Test.YtikpjjllccijoaaLemImplTroughOf
import Derived.Test.YtikpjjllccijoaaLemMarkInt
import Derived.Test.YtikpjjllccijoaaLemSpecTroughOf
import Derived.Test.YtikpjjllccijoaaLemTrough
import Derived.Test.YtikpjjllccijoaaPx31
namespace Go.Proofs.Ytikpjjllccijoaa.Pure
open Go.RowKit Go.Proofs.Ytikpjjllccijoaa.P Go.Proofs.YtikpjjllccijoaaW.PrintWords Go.Proofs.YtikpjjllccijoaaW.PrintLast Go.Proofs.YtikpjjllccijoaaW.PrintMore
set_option linter.unusedVariables false
set_option linter.unusedSimpArgs false
theorem FnExactTroughOf : laws_FnExactTroughOf.Pure := by
  intro v w _ _
  refine ⟨300, ?_⟩
  have e : trOfI v w = trOf v w := rfl
  have hl : (trOf v w).1.length ≤ 11 := by
    unfold trOf
    split
    · rename_i h
      have := trough_len v w.toNat (by omega)
      simp only [this]
      omega
    · simp
  unfold laws_FnExactTroughOf.f
  rw [specTroughOf_is _ v w (by omega), bind_some_, implTroughOf_is _ v w (by omega), bind_some_, e, eqInt_is _ _ _ (by omega) (by omega), bind_some_, decide_eq_true rfl, if_pos rfl, bne_self_eq_false]
  simp only [laws_FnExactTroughOf.j0]
  rw [if_neg (by simp), markInt_is _ _ 1 (by omega) (by omega) (by omega), bind_some_, heldInt_is _ _ 1 (by omega) (by omega) (by omega), bind_some_, if_neg (by omega), if_pos rfl,
    implTroughOf_is _ v w (by omega), bind_some_, e, eqInt_is _ _ _ (by omega) (by omega), bind_some_, decide_eq_true rfl, if_pos rfl, bne_self_eq_false]
  simp only [laws_FnExactTroughOf.j1]
  rw [if_neg (by simp), heldInt_is _ _ 1 (by omega) (by omega) (by omega), bind_some_, if_neg (by omega), if_pos rfl]

end Go.Proofs.Ytikpjjllccijoaa.Pure
