/- The reference's rhythm and rounds are the plain ones. -/
import Derived.Test.YtajndapolblhmaaLemCore
import Derived.Test.YtajndapolblhmaaLemIn
import Derived.Test.YtajndapolblhmaaLemWorks
import Derived.Test.YtajndapolblhmaaPx10
import Derived.Test.YtajndapolblhmaaPx8
namespace Go.Proofs.Ytajndapolblhmaa.P
open Go.RowKit Go.Proofs.Ytajndapolblhmaa.P Go.Proofs.YtajndapolblhmaaW.PrintWords Go.Proofs.YtajndapolblhmaaW.PrintLast Go.Proofs.YtajndapolblhmaaW.PrintMore
set_option linter.unusedVariables false
set_option linter.unusedSimpArgs false
theorem specTimes_is (b c : Int) : spec_l09Times.f b c = some (rhOk b c) := by
  unfold spec_l09Times.f rhOk
  simp only [in_is, bind_some_, ite_tt]
theorem specRounds_is (b c d : Int) (h : rhOk b c = true) (hd : -1000 ≤ d ∧ d ≤ 1000) : spec_l09Rounds.f b c d = some (castOf b c d) := by
  obtain ⟨h1, h2⟩ := rhOk_in h
  have hc := castOf_in h hd
  unfold spec_l09Rounds.f
  unfold castOf at hc ⊢
  by_cases h5 : d < c
  · rw [if_pos h5, if_pos h5]
  · rw [if_neg h5] at hc
    rw [if_neg h5, if_neg h5, if_neg (show ¬ b = 0 by omega), w64 (d - c) (by omega) (by omega), Int.tdiv_eq_ediv_of_nonneg (by omega), w64 _ (by omega) (by omega)]

end Go.Proofs.Ytajndapolblhmaa.P
