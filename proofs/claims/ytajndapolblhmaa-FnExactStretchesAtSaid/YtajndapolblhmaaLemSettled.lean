/- What is asked of a settled list. -/
import Derived.Test.YtajndapolblhmaaLemCore
import Derived.Test.YtajndapolblhmaaPx0
namespace Go.Proofs.Ytajndapolblhmaa.P
open Go.RowKit Go.Proofs.Ytajndapolblhmaa.P Go.Proofs.YtajndapolblhmaaW.PrintWords Go.Proofs.YtajndapolblhmaaW.PrintLast Go.Proofs.YtajndapolblhmaaW.PrintMore
set_option linter.unusedVariables false
set_option linter.unusedSimpArgs false
def stOk (l : List Int) : Bool := (l.all fun n => decide (0 ≤ n ∧ n ≤ 2000000)) && decide ((l.length : Int) = 24)
theorem stOk_len {l : List Int} (h : stOk l = true) : l.length = 24 := by
  unfold stOk at h
  simp only [Bool.and_eq_true, decide_eq_true_eq] at h
  omega
theorem stOk_in {l : List Int} (h : stOk l = true) (i : Nat) (hi : i < l.length) : 0 ≤ rd l i ∧ rd l i ≤ 2000000 := by
  unfold stOk at h
  simp only [Bool.and_eq_true, List.all_eq_true, decide_eq_true_eq] at h
  rw [rd_at l i hi]
  exact h.1 _ (List.getElem_mem hi)

end Go.Proofs.Ytajndapolblhmaa.P
