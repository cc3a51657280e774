/- The levels of a settled list, as both sides tell them. -/
import Derived.Test.YtikpjjllccijoaaLemAreWithin
import Derived.Test.YtikpjjllccijoaaLemCore
import Derived.Test.YtikpjjllccijoaaLemImplSettled
import Derived.Test.YtikpjjllccijoaaLemIn
import Derived.Test.YtikpjjllccijoaaLemSettled
import Derived.Test.YtikpjjllccijoaaLemSpecSettled
import Derived.Test.YtikpjjllccijoaaPx3
import Derived.Test.YtikpjjllccijoaaPx34
namespace Go.Proofs.Ytikpjjllccijoaa.P
open Go.RowKit Go.Proofs.Ytikpjjllccijoaa.P Go.Proofs.YtikpjjllccijoaaW.PrintWords Go.Proofs.YtikpjjllccijoaaW.PrintLast Go.Proofs.YtikpjjllccijoaaW.PrintMore
set_option linter.unusedVariables false
set_option linter.unusedSimpArgs false
def levelAt (w s n : Int) : Int := if n ≥ s then 2 else if n ≥ w then 1 else 0
def lvOf (l : List Int) (w s : Int) : List Int × Bool := if stOk l = true ∧ (1 ≤ s ∧ s ≤ 2000000) ∧ (1 ≤ w ∧ w ≤ s) then (l.map (levelAt w s), true) else ([], false)
theorem specLv_loop (l : List Int) (hb : l.length ≤ 1000000) (w s : Int) (hws : w ≤ s) : ∀ (d k i : Nat) (acc : List Int), i + d = l.length → d < k → acc.length ≤ i → spec_LevelsOf.l0 k l w s acc i = some (acc ++ (l.drop i).map (levelAt w s), true) := by
  intro d
  induction d with
  | zero =>
    intro k i a hi hk ha
    obtain ⟨k, rfl⟩ : ∃ m, k = m + 1 := ⟨k - 1, by omega⟩
    simp only [spec_LevelsOf.l0]
    rw [if_neg (by omega), List.drop_of_length_le (by omega)]
    simp
  | succ d ih =>
    intro k i a hi hk ha
    obtain ⟨k, rfl⟩ : ∃ m, k = m + 1 := ⟨k - 1, by omega⟩
    have hr := fun x => ih k (i + 1) (a ++ [x]) (by omega) (by omega) (by simp; omega)
    rw [← w64s i (by omega)] at hr
    simp only [spec_LevelsOf.l0, hr]
    rw [if_pos (show (i : Int) < (l.length : Int) by omega), if_pos (show 0 ≤ (i : Int) by omega), drop_at l i (by omega)]
    have ha2 : a.length < 17592186044416 := by omega
    simp only [List.map_cons, levelAt, if_pos ha2]
    by_cases h1 : rd l i ≥ s
    · rw [if_pos (show rd l i ≥ w by omega), if_pos h1, if_pos h1]; simp
    · by_cases h2 : rd l i ≥ w
      · rw [if_pos h2, if_neg h1, if_neg h1, if_pos h2]; simp
      · rw [if_neg h2, if_neg h1, if_neg h1, if_neg h2]; simp
theorem implLv_loop (l : List Int) (hb : l.length ≤ 1000000) (w s : Int) : ∀ (d k i : Nat) (acc : List Int), i + d = l.length → d < k → acc.length ≤ i → impl_LevelsOf.l0 k w s acc l l.length i = some (acc ++ (l.drop i).map (levelAt w s), true) := by
  intro d
  induction d with
  | zero =>
    intro k i a hi hk ha
    obtain ⟨k, rfl⟩ : ∃ m, k = m + 1 := ⟨k - 1, by omega⟩
    simp only [impl_LevelsOf.l0]
    rw [if_neg (by omega), List.drop_of_length_le (by omega)]
    simp
  | succ d ih =>
    intro k i a hi hk ha
    obtain ⟨k, rfl⟩ : ∃ m, k = m + 1 := ⟨k - 1, by omega⟩
    have hr := fun x => ih k (i + 1) (a ++ [x]) (by omega) (by omega) (by simp; omega)
    rw [← w64s i (by omega)] at hr
    simp only [impl_LevelsOf.l0, hr]
    rw [if_pos (show (i : Int) < (l.length : Int) by omega), if_pos (show 0 ≤ (i : Int) by omega), if_pos (show (i : Int) < (l.length : Int) by omega), drop_at l i (by omega)]
    have ha2 : a.length < 17592186044416 := by omega
    simp only [List.map_cons, levelAt, if_pos ha2]
    by_cases h1 : rd l i ≥ s
    · rw [if_pos h1, if_pos h1]; simp
    · by_cases h2 : rd l i ≥ w
      · rw [if_neg h1, if_pos h2, if_neg h1, if_pos h2]; simp
      · rw [if_neg h1, if_neg h2, if_neg h1, if_neg h2]; simp
theorem specLv_is (k : Nat) (l : List Int) (w s : Int) (hb : l.length ≤ 9223372036854775806) (hk : l.length + 5 < k) : spec_LevelsOf.f k l w s = some (lvOf l w s) := by
  obtain ⟨k, rfl⟩ : ∃ m, k = m + 1 := ⟨k - 1, by omega⟩
  unfold spec_LevelsOf.f lvOf
  rw [specSettled_is _ l hb (by omega), bind_some_]
  simp only [in_is, bind_some_, spec_LevelsOf.j0]
  by_cases h : stOk l = true
  · by_cases h1 : (1 ≤ s ∧ s ≤ 2000000)
    · by_cases h2 : (1 ≤ w ∧ w ≤ s)
      · have hl := stOk_len h
        have := specLv_loop l (by omega) w s h2.2 l.length k 0 [] (by omega) (by omega) (by simp)
        rw [show ((0 : Nat) : Int) = 0 by rfl] at this
        simp [h, h1, h2, this]
      · simp [h, h1, h2]
    · simp [h, h1]
  · simp [h]
theorem implLv_is (k : Nat) (l : List Int) (w s : Int) (hk : l.length + 5 < k) : impl_LevelsOf.f k l w s = some (lvOf l w s) := by
  obtain ⟨k, rfl⟩ : ∃ m, k = m + 1 := ⟨k - 1, by omega⟩
  unfold impl_LevelsOf.f impl_areWithin.f lvOf
  rw [implSettled_is l, bind_some_]
  simp only [areWithin2, bind_some_, impl_LevelsOf.j0]
  by_cases h : stOk l = true
  · have hl := stOk_len h
    have := implLv_loop l (by omega) w s l.length k 0 [] (by omega) (by omega) (by simp)
    rw [show ((0 : Nat) : Int) = 0 by rfl] at this
    by_cases h1 : (1 ≤ s ∧ s ≤ 2000000) <;> by_cases h2 : (1 ≤ w ∧ w ≤ 2000000) <;> by_cases h3 : w > s
    · rw [if_neg (show ¬ (stOk l = true ∧ (1 ≤ s ∧ s ≤ 2000000) ∧ (1 ≤ w ∧ w ≤ s)) by intro hh; have h9 := hh.2; omega)]
      simp [h, h1, h2, h3]
    · rw [if_pos (show stOk l = true ∧ (1 ≤ s ∧ s ≤ 2000000) ∧ (1 ≤ w ∧ w ≤ s) from ⟨h, h1, by omega⟩)]
      simp [h, h1, h2, h3, this]
    all_goals (rw [if_neg (show ¬ (stOk l = true ∧ (1 ≤ s ∧ s ≤ 2000000) ∧ (1 ≤ w ∧ w ≤ s)) by intro hh; have h9 := hh.2; omega)]; simp [h, h1, h2, h3])
  · simp [h]

end Go.Proofs.Ytikpjjllccijoaa.P
