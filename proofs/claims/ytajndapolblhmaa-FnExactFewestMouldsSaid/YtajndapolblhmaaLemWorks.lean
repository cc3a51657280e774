/- Works, and how many pieces a mould has made ready, plainly. -/
import Derived.Test.YtajndapolblhmaaPx0
namespace Go.Proofs.Ytajndapolblhmaa.P
open Go.RowKit Go.Proofs.Ytajndapolblhmaa.P Go.Proofs.YtajndapolblhmaaW.PrintWords Go.Proofs.YtajndapolblhmaaW.PrintLast Go.Proofs.YtajndapolblhmaaW.PrintMore
set_option linter.unusedVariables false
set_option linter.unusedSimpArgs false
def rhOk (b c : Int) : Bool := decide (1 ≤ b ∧ b ≤ 10) && decide (0 ≤ c ∧ c ≤ 40)
def wkOk (a b c : Int) : Bool := decide (1 ≤ a ∧ a ≤ 200) && rhOk b c
theorem rhOk_in {b c : Int} (h : rhOk b c = true) : (1 ≤ b ∧ b ≤ 10) ∧ (0 ≤ c ∧ c ≤ 40) := by
  unfold rhOk at h
  simpa only [Bool.and_eq_true, decide_eq_true_eq] using h
theorem wkOk_in {a b c : Int} (h : wkOk a b c = true) : (1 ≤ a ∧ a ≤ 200) ∧ rhOk b c = true := by
  unfold wkOk at h
  simpa only [Bool.and_eq_true, decide_eq_true_eq] using h
def castOf (b c d : Int) : Int := if d < c then 0 else (d - c) / b
theorem castOf_in {b c d : Int} (h : rhOk b c = true) (hd : -1000 ≤ d ∧ d ≤ 1000) : 0 ≤ castOf b c d ∧ castOf b c d ≤ 1000 := by
  obtain ⟨h1, h2⟩ := rhOk_in h
  unfold castOf
  split
  · omega
  · have : (d - c) / b ≤ d - c := Int.ediv_le_self _ (by omega)
    have := Int.ediv_nonneg (show 0 ≤ d - c by omega) (show 0 ≤ b by omega)
    omega
theorem mul200 {a x : Int} (ha : 1 ≤ a ∧ a ≤ 200) (hx : 0 ≤ x ∧ x ≤ 1000) : 0 ≤ a * x ∧ a * x ≤ 200000 := by
  constructor
  · exact Int.mul_nonneg (by omega) hx.1
  · calc a * x ≤ 200 * x := Int.mul_le_mul_of_nonneg_right ha.2 hx.1
      _ ≤ 200 * 1000 := by omega
      _ = 200000 := by decide

end Go.Proofs.Ytajndapolblhmaa.P
