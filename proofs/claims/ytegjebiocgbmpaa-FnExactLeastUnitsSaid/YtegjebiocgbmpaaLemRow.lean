/- Few numbers from 0 to a greatest one, at least one of them. -/
import Derived.Test.YtegjebiocgbmpaaLemCore
import Derived.Test.YtegjebiocgbmpaaPx0
namespace Go.Proofs.Ytegjebiocgbmpaa.P
open Go.RowKit Go.Proofs.Ytegjebiocgbmpaa.P Go.Proofs.YtegjebiocgbmpaaW.PrintWords Go.Proofs.YtegjebiocgbmpaaW.PrintLast Go.Proofs.YtegjebiocgbmpaaW.PrintMore
set_option linter.unusedVariables false
set_option linter.unusedSimpArgs false
def rowOk (m : Int) (l : List Int) : Bool := decide (1 ≤ (l.length : Int) ∧ (l.length : Int) ≤ 12) && l.all fun n => decide (0 ≤ n ∧ n ≤ m)
theorem rowOk_len {m : Int} {l : List Int} (h : rowOk m l = true) : 1 ≤ l.length ∧ l.length ≤ 12 := by
  unfold rowOk at h
  simp only [Bool.and_eq_true, decide_eq_true_eq] at h
  omega
theorem rowOk_at {m : Int} {l : List Int} (h : rowOk m l = true) (i : Nat) (hi : i < l.length) : 0 ≤ rd l i ∧ rd l i ≤ m := by
  unfold rowOk at h
  simp only [Bool.and_eq_true, List.all_eq_true, decide_eq_true_eq] at h
  rw [rd_at l i hi]
  exact h.2 _ (List.getElem_mem hi)

end Go.Proofs.Ytegjebiocgbmpaa.P
