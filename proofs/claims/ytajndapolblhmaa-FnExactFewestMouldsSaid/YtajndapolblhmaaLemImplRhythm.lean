/- The program's rhythm and casts are the plain ones. -/
import Derived.Test.YtajndapolblhmaaLemCore
import Derived.Test.YtajndapolblhmaaLemWithin
import Derived.Test.YtajndapolblhmaaLemWorks
import Derived.Test.YtajndapolblhmaaPx6
namespace Go.Proofs.Ytajndapolblhmaa.P
open Go.RowKit Go.Proofs.Ytajndapolblhmaa.P Go.Proofs.YtajndapolblhmaaW.PrintWords Go.Proofs.YtajndapolblhmaaW.PrintLast Go.Proofs.YtajndapolblhmaaW.PrintMore
set_option linter.unusedVariables false
set_option linter.unusedSimpArgs false
theorem implRhythm_is (b c : Int) : impl_isRhythm.f b c = some (rhOk b c) := by
  unfold impl_isRhythm.f rhOk
  simp only [within_is, bind_some_, ite_tt]
theorem implCasts_is (b c d : Int) (h : rhOk b c = true) (hd : -1000 ≤ d ∧ d ≤ 1000) : impl_casts.f b c d = some (castOf b c d) := by
  obtain ⟨h1, h2⟩ := rhOk_in h
  have hc := castOf_in h hd
  unfold impl_casts.f mx
  unfold castOf at hc ⊢
  rw [w64 (d - c) (by omega) (by omega), if_neg (show ¬ b = 0 by omega)]
  by_cases h5 : d < c
  · rw [if_pos (show d - c < 0 by omega), if_pos h5, Int.zero_ediv, w64 0 (by omega) (by omega)]
  · rw [if_neg h5] at hc
    rw [if_neg (show ¬ d - c < 0 by omega), if_neg h5, w64 _ (by omega) (by omega)]

end Go.Proofs.Ytajndapolblhmaa.P
