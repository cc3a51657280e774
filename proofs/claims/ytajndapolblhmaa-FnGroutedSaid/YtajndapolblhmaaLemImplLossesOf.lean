/- The losses behind rings, as the program lists them. -/
import Derived.Test.YtajndapolblhmaaLemCore
import Derived.Test.YtajndapolblhmaaLemGroutMore
import Derived.Test.YtajndapolblhmaaLemGrouts
import Derived.Test.YtajndapolblhmaaLemImplGrouts
import Derived.Test.YtajndapolblhmaaLemImplLoss
import Derived.Test.YtajndapolblhmaaLemImplLosses
import Derived.Test.YtajndapolblhmaaLemLosses
import Derived.Test.YtajndapolblhmaaLemRdGrout
import Derived.Test.YtajndapolblhmaaLemWithin
import Derived.Test.YtajndapolblhmaaPx0
import Derived.Test.YtajndapolblhmaaPx32
namespace Go.Proofs.Ytajndapolblhmaa.P
open Go.RowKit Go.Proofs.Ytajndapolblhmaa.P Go.Proofs.YtajndapolblhmaaW.PrintWords Go.Proofs.YtajndapolblhmaaW.PrintLast Go.Proofs.YtajndapolblhmaaW.PrintMore
set_option linter.unusedVariables false
set_option linter.unusedSimpArgs false
def lossAt (w : Int) (g : S40) : S42 := ⟨g.f0, grLoss g, w⟩
def lossesOf (l : List S40) (w : Int) : List S42 × Bool :=
  if grValid l = true ∧ (0 ≤ w ∧ w ≤ 5) then (if lsValid (l.map (lossAt w)) = true then (l.map (lossAt w), true) else ([], false)) else ([], false)
theorem implLossesOf_loop (w : Int) (l : List S40) (hb : l.length ≤ 1000000) : ∀ (d k i : Nat) (acc : List S42), i + d = l.length → d + 1 + l.length < k → acc.length = i →
    impl_LossesOf.l0 k w acc l l.length i = some (if lsValid (acc ++ (l.drop i).map (lossAt w)) = true then (acc ++ (l.drop i).map (lossAt w), true) else ([], false)) := by
  intro d
  induction d with
  | zero =>
    intro k i acc hi hk ha
    obtain ⟨k, rfl⟩ : ∃ m, k = m + 1 := ⟨k - 1, by omega⟩
    simp only [impl_LossesOf.l0]
    rw [if_neg (by omega), List.drop_of_length_le (by omega), List.map_nil, List.append_nil, implLosses_is _ _ (by omega) (by omega), bind_some_]
    by_cases h : lsValid acc = true
    · rw [if_pos h, if_pos h]
    · rw [if_neg h, if_neg h]
  | succ d ih =>
    intro k i acc hi hk ha
    obtain ⟨k, rfl⟩ : ∃ m, k = m + 1 := ⟨k - 1, by omega⟩
    rw [dropGrout_at l i (by omega)]
    simp only [impl_LossesOf.l0]
    rw [if_pos (by omega), if_pos (by omega), if_pos (by omega), implLoss_is, bind_some_, if_pos (by omega), w64s i (by omega), ih k (i + 1) _ (by omega) (by omega) (by simp; omega)]
    simp only [List.map_cons, List.append_assoc, List.singleton_append]
    rfl
theorem implLossesOf_is (k : Nat) (l : List S40) (w : Int) (hb : l.length ≤ 1048576) (hk : 2 * l.length + 5 < k) : impl_LossesOf.f k l w = some (lossesOf l w) := by
  obtain ⟨k, rfl⟩ : ∃ m, k = m + 1 := ⟨k - 1, by omega⟩
  unfold impl_LossesOf.f lossesOf
  rw [implGrouts_is _ l (by omega) (by omega), bind_some_, within_is, bind_some_]
  simp only [impl_LossesOf.j0]
  by_cases h1 : grValid l = true
  · by_cases h2 : (0 ≤ w ∧ w ≤ 5)
    · have hl : l.length ≤ 12 := by
        unfold grValid at h1
        simp only [Bool.and_eq_true, decide_eq_true_eq] at h1
        omega
      have := implLossesOf_loop w l (by omega) l.length k 0 [] (by omega) (by omega) rfl
      rw [show ((0 : Nat) : Int) = 0 by rfl, List.nil_append, List.drop_zero] at this
      simp [h1, h2, this]
    · simp [h1, h2]
  · simp [h1]

end Go.Proofs.Ytajndapolblhmaa.P
