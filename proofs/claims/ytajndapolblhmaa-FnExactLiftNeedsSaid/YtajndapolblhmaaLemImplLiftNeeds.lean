/- The program's LiftNeeds is the plain one. -/
import Derived.Test.YtajndapolblhmaaLemCore
import Derived.Test.YtajndapolblhmaaLemImplSettled
import Derived.Test.YtajndapolblhmaaLemLiftNeeds
import Derived.Test.YtajndapolblhmaaLemSettled
import Derived.Test.YtajndapolblhmaaLemWithin
import Derived.Test.YtajndapolblhmaaPx30
namespace Go.Proofs.Ytajndapolblhmaa.P
open Go.RowKit Go.Proofs.Ytajndapolblhmaa.P Go.Proofs.YtajndapolblhmaaW.PrintWords Go.Proofs.YtajndapolblhmaaW.PrintLast Go.Proofs.YtajndapolblhmaaW.PrintMore
set_option linter.unusedVariables false
set_option linter.unusedSimpArgs false
theorem implNeeds_loop (l : List Int) (hb : l.length ≤ 1000000) (a u : Int) (hu : ¬ u = 0) : ∀ (d k i : Nat) (acc : List Int), i + d = l.length → d < k → acc.length ≤ i → impl_LiftNeeds.l0 k a u acc l l.length i = some (needsGo a u acc (l.drop i)) := by
  intro d
  induction d with
  | zero =>
    intro k i acc hi hk ha
    obtain ⟨k, rfl⟩ : ∃ m, k = m + 1 := ⟨k - 1, by omega⟩
    simp only [impl_LiftNeeds.l0]
    rw [if_neg (by omega), List.drop_of_length_le (by omega)]
    rfl
  | succ d ih =>
    intro k i acc hi hk ha
    obtain ⟨k, rfl⟩ : ∃ m, k = m + 1 := ⟨k - 1, by omega⟩
    rw [drop_at l i (by omega)]
    simp only [impl_LiftNeeds.l0, needsGo]
    rw [if_pos (by omega), if_pos (by omega), if_pos (by omega), if_neg hu, w64s i (by omega), if_pos (show acc.length < 17592186044416 by omega), ih k (i + 1) _ (by omega) (by omega) (by simp; omega)]
    have en : wrap64 (Int.tdiv (wrap64 (wrap64 (mx (wrap64 (rd l i - a)) 0 + u) - 1)) u) = needOf a u (rd l i) := rfl
    rw [en]
    split <;> rfl
theorem implLiftNeeds_is (k : Nat) (l : List Int) (a u f : Int) (hk : l.length + 40 < k) : impl_LiftNeeds.f k l a u f = some (needsP l a u f) := by
  obtain ⟨k, rfl⟩ : ∃ m, k = m + 1 := ⟨k - 1, by omega⟩
  unfold impl_LiftNeeds.f needsP
  rw [implSettled_is l, bind_some_]
  simp only [within_is, bind_some_, impl_LiftNeeds.j0]
  by_cases h0 : stOk l = true
  · by_cases h1 : (0 ≤ a ∧ a ≤ 2000000)
    · by_cases h2 : (1 ≤ u ∧ u ≤ 2000000)
      · by_cases h3 : (0 ≤ f ∧ f ≤ 12)
        · have hl := stOk_len h0
          obtain ⟨n, rfl⟩ : ∃ n : Nat, f = n := ⟨f.toNat, by omega⟩
          have hln : ((l.take (n + 12)).drop n).length ≤ 24 := by rw [List.length_drop, List.length_take]; omega
          have := implNeeds_loop ((l.take (n + 12)).drop n) (by omega) a u (by omega) ((l.take (n + 12)).drop n).length k 0 [] (by omega) (by omega) (by simp)
          rw [show ((0 : Nat) : Int) = 0 by rfl, List.drop_zero] at this
          have e : wrap64 ((n : Int) + 12) = (n : Int) + 12 := w64 _ (by omega) (by omega)
          rw [if_pos h0, if_pos (decide_eq_true h1), if_pos (decide_eq_true h2), if_pos (show stOk l = true ∧ (0 ≤ a ∧ a ≤ 2000000) ∧ (1 ≤ u ∧ u ≤ 2000000) ∧ (0 ≤ (n : Int) ∧ (n : Int) ≤ 12) from ⟨h0, h1, h2, h3⟩), decide_eq_true h3, e, if_neg (by simp), if_pos (by omega), if_pos (by omega), if_pos (by omega),
            show ((n : Int) + 12).toNat = n + 12 by omega, Int.toNat_natCast, this]
        · simp [h0, h1, h2, h3]
      · simp [h0, h1, h2]
    · simp [h0, h1]
  · simp [h0]

end Go.Proofs.Ytajndapolblhmaa.P
