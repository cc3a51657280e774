/- The program's lifts are the plain ones. -/
import Derived.Test.YtegjebiocgbmpaaLemCore
import Derived.Test.YtegjebiocgbmpaaLemLifts
import Derived.Test.YtegjebiocgbmpaaPx3
namespace Go.Proofs.Ytegjebiocgbmpaa.P
open Go.RowKit Go.Proofs.Ytegjebiocgbmpaa.P Go.Proofs.YtegjebiocgbmpaaW.PrintWords Go.Proofs.YtegjebiocgbmpaaW.PrintLast Go.Proofs.YtegjebiocgbmpaaW.PrintMore
set_option linter.unusedVariables false
set_option linter.unusedSimpArgs false
theorem implLifts_loop (l : List Int) (hb : l.length ≤ 1000000) : ∀ (d k i : Nat) (acc : List Int), i + d = l.length → d < k → acc.length ≤ i → impl_lifts.l0 k l acc l l.length i = some (acc ++ liftsGo l d i) := by
  intro d
  induction d with
  | zero =>
    intro k i acc hi hk ha
    obtain ⟨k, rfl⟩ : ∃ m, k = m + 1 := ⟨k - 1, by omega⟩
    simp only [impl_lifts.l0]
    rw [if_neg (by omega)]
    simp [liftsGo]
  | succ d ih =>
    intro k i acc hi hk ha
    obtain ⟨k, rfl⟩ : ∃ m, k = m + 1 := ⟨k - 1, by omega⟩
    have hlen : acc.length < 17592186044416 := by omega
    have hr := fun x => ih k (i + 1) (acc ++ [x]) (by omega) (by omega) (by simp; omega)
    simp only [impl_lifts.l0, liftsGo, liftAt, if_pos hlen]
    rw [w64s i (by omega), if_pos (show (i : Int) < (l.length : Int) by omega), if_pos (show 0 ≤ (i : Int) by omega), if_pos (show (i : Int) < (l.length : Int) by omega)]
    simp only [hr, if_pos (show 0 ≤ ((i + 1 : Nat) : Int) by omega)]
    rcases i with _ | i
    · rw [if_neg (show ¬ (((0 : Nat) : Int) > 0) by omega), if_neg (show ¬ 0 < 0 by omega)]
      by_cases h : 0 + 1 < l.length
      · rw [if_pos (show ((0 + 1 : Nat) : Int) < (l.length : Int) by omega), if_pos h]; simp
      · rw [if_neg (show ¬ ((0 + 1 : Nat) : Int) < (l.length : Int) by omega), if_neg h]; simp
    · have e : wrap64 (((i + 1 : Nat) : Int) - 1) = (i : Int) := by rw [w64 _ (by omega) (by omega)]; omega
      rw [if_pos (show ((i + 1 : Nat) : Int) > 0 by omega), e, if_pos (show 0 ≤ (i : Int) by omega), if_pos (show (i : Int) < (l.length : Int) by omega), if_pos (show 0 < i + 1 by omega), show ((i + 1 - 1 : Nat) : Int) = (i : Int) by omega]
      by_cases h : i + 1 + 1 < l.length
      · rw [if_pos (show ((i + 1 + 1 : Nat) : Int) < (l.length : Int) by omega), if_pos h]; simp
      · rw [if_neg (show ¬ ((i + 1 + 1 : Nat) : Int) < (l.length : Int) by omega), if_neg h]; simp
theorem implLifts_is (k : Nat) (l : List Int) (hb : l.length ≤ 1000000) (hk : l.length < k) : impl_lifts.f k l = some (liftsOf l) := by
  unfold impl_lifts.f liftsOf
  have := implLifts_loop l hb l.length k 0 [] (by omega) hk (by simp)
  simpa using this

end Go.Proofs.Ytegjebiocgbmpaa.P
