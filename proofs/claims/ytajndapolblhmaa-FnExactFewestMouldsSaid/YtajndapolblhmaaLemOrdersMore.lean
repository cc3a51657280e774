/- What follows from a list of orders being valid. -/
import Derived.Test.YtajndapolblhmaaLemOrders
import Derived.Test.YtajndapolblhmaaLemUpTo
import Derived.Test.YtajndapolblhmaaPx0
namespace Go.Proofs.Ytajndapolblhmaa.P
open Go.RowKit Go.Proofs.Ytajndapolblhmaa.P Go.Proofs.YtajndapolblhmaaW.PrintWords Go.Proofs.YtajndapolblhmaaW.PrintLast Go.Proofs.YtajndapolblhmaaW.PrintMore
set_option linter.unusedVariables false
set_option linter.unusedSimpArgs false
theorem orValid_len {l : List S119} (h : orValid l = true) : l.length ≤ 8 := by
  unfold orValid at h
  simp only [Bool.and_eq_true, decide_eq_true_eq] at h
  omega
theorem orValid_at {l : List S119} (h : orValid l = true) (i : Nat) (hi : i < l.length) : (0 ≤ (rd_T119 l i).f0 ∧ (rd_T119 l i).f0 ≤ 200) ∧ (1 ≤ (rd_T119 l i).f1 ∧ (rd_T119 l i).f1 ≤ 200) := by
  unfold orValid at h
  simp only [Bool.and_eq_true] at h
  have := (upTo_iff _ _ _).1 h.1 i (by omega) (by omega)
  unfold orOk at this
  simp only [Bool.and_eq_true, decide_eq_true_eq] at this
  exact this.1
theorem orValid_inc {l : List S119} (h : orValid l = true) (i : Nat) (hi : i + 1 < l.length) : (rd_T119 l i).f0 < (rd_T119 l (i + 1 : Nat)).f0 := by
  unfold orValid at h
  simp only [Bool.and_eq_true] at h
  have := (upTo_iff _ _ _).1 h.1 (i + 1) (by omega) (by omega)
  unfold orOk at this
  simp only [Bool.and_eq_true, Bool.or_eq_true, decide_eq_true_eq] at this
  have h2 := this.2
  rw [show ((i + 1 - 1 : Nat) : Int) = (i : Int) by omega] at h2
  omega

end Go.Proofs.Ytajndapolblhmaa.P
