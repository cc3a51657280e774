/- The reference's LiftNeeds is the plain one. -/
import Derived.Test.YtajndapolblhmaaLemCore
import Derived.Test.YtajndapolblhmaaLemIn
import Derived.Test.YtajndapolblhmaaLemLiftNeeds
import Derived.Test.YtajndapolblhmaaLemSettled
import Derived.Test.YtajndapolblhmaaLemSpecMax
import Derived.Test.YtajndapolblhmaaLemSpecSettled
import Derived.Test.YtajndapolblhmaaPx30
namespace Go.Proofs.Ytajndapolblhmaa.P
open Go.RowKit Go.Proofs.Ytajndapolblhmaa.P Go.Proofs.YtajndapolblhmaaW.PrintWords Go.Proofs.YtajndapolblhmaaW.PrintLast Go.Proofs.YtajndapolblhmaaW.PrintMore
set_option linter.unusedVariables false
set_option linter.unusedSimpArgs false
theorem specNeeds_loop (l : List Int) (hl : l.length = 24) (a u : Int) (hu : ¬ u = 0) (f : Nat) (hf : f ≤ 12) : ∀ (d k i : Nat) (acc : List Int), i + d = f + 12 → d < k → acc.length ≤ i → spec_LiftNeeds.l0 k l a u f acc i = some (needsGo a u acc ((l.take (f + 12)).drop i)) := by
  have ht : (l.take (f + 12)).length = f + 12 := by rw [List.length_take]; omega
  have e : wrap64 ((f : Int) + 12) = (f : Int) + 12 := w64 _ (by omega) (by omega)
  intro d
  induction d with
  | zero =>
    intro k i acc hi hk ha
    obtain ⟨k, rfl⟩ : ∃ m, k = m + 1 := ⟨k - 1, by omega⟩
    simp only [spec_LiftNeeds.l0]
    rw [e, if_neg (by omega), List.drop_of_length_le (by omega)]
    rfl
  | succ d ih =>
    intro k i acc hi hk ha
    obtain ⟨k, rfl⟩ : ∃ m, k = m + 1 := ⟨k - 1, by omega⟩
    have hrd : rd (l.take (f + 12)) i = rd l i := by
      rw [rd_at _ i (by omega), rd_at l i (by omega), List.getElem_take]
    rw [drop_at (l.take (f + 12)) i (by omega), hrd]
    simp only [spec_LiftNeeds.l0, needsGo]
    have hn : ∀ x y : Int, (if 0 > x then 0 else x) = (if x < 0 then 0 else x) := fun x y => rfl
    rw [e, if_pos (by omega), if_pos (by omega), if_pos (by omega), l00Max_is, bind_some_, if_neg hu, w64s i (by omega), if_pos (show acc.length < 17592186044416 by omega), ih k (i + 1) _ (by omega) (by omega) (by simp; omega)]
    have en : wrap64 (Int.tdiv (wrap64 (wrap64 ((if 0 > wrap64 (rd l i - a) then 0 else wrap64 (rd l i - a)) + u) - 1)) u) = needOf a u (rd l i) := rfl
    rw [en]
    split <;> rfl
theorem specLiftNeeds_is (k : Nat) (l : List Int) (a u f : Int) (hb : l.length ≤ 9223372036854775806) (hk : l.length + 40 < k) : spec_LiftNeeds.f k l a u f = some (needsP l a u f) := by
  obtain ⟨k, rfl⟩ : ∃ m, k = m + 1 := ⟨k - 1, by omega⟩
  unfold spec_LiftNeeds.f needsP
  rw [specSettled_is _ l hb (by omega), bind_some_]
  simp only [in_is, bind_some_, spec_LiftNeeds.j0]
  by_cases h0 : stOk l = true
  · by_cases h1 : (0 ≤ a ∧ a ≤ 2000000)
    · by_cases h2 : (1 ≤ u ∧ u ≤ 2000000)
      · by_cases h3 : (0 ≤ f ∧ f ≤ 12)
        · have hl := stOk_len h0
          obtain ⟨n, rfl⟩ : ∃ n : Nat, f = n := ⟨f.toNat, by omega⟩
          have := specNeeds_loop l hl a u (by omega) n (by omega) 12 k n [] (by omega) (by omega) (by simp)
          simp [h0, h1, h2, h3, this]
        · simp [h0, h1, h2, h3]
      · simp [h0, h1, h2]
    · simp [h0, h1]
  · simp [h0]

end Go.Proofs.Ytajndapolblhmaa.P
