/- The sum that a law reckons. -/
import Derived.Test.YtegjebiocgbmpaaLemCore
import Derived.Test.YtegjebiocgbmpaaPx3
namespace Go.Proofs.Ytegjebiocgbmpaa.P
open Go.RowKit Go.Proofs.Ytegjebiocgbmpaa.P Go.Proofs.YtegjebiocgbmpaaW.PrintWords Go.Proofs.YtegjebiocgbmpaaW.PrintLast Go.Proofs.YtegjebiocgbmpaaW.PrintMore
set_option linter.unusedVariables false
set_option linter.unusedSimpArgs false
theorem b10Sum_loop (l : List Int) (hb : l.length ≤ 9223372036854775806) : ∀ (d k i : Nat) (a : Int), i + d = l.length → d < k → laws_b10Sum.l0 k l a i = some ((l.drop i).foldl (fun a x => wrap64 (a + x)) a) := by
  intro d
  induction d with
  | zero =>
    intro k i a hi hk
    obtain ⟨k, rfl⟩ : ∃ m, k = m + 1 := ⟨k - 1, by omega⟩
    simp only [laws_b10Sum.l0]
    rw [if_neg (by omega), List.drop_of_length_le (by omega)]
    rfl
  | succ d ih =>
    intro k i a hi hk
    obtain ⟨k, rfl⟩ : ∃ m, k = m + 1 := ⟨k - 1, by omega⟩
    simp only [laws_b10Sum.l0]
    rw [if_pos (by omega), if_pos (by omega), w64s i (by omega), ih k (i + 1) _ (by omega) (by omega), drop_at l i (by omega)]
    rfl
theorem b10Sum_is (k : Nat) (l : List Int) (hb : l.length ≤ 9223372036854775806) (hk : l.length < k) : laws_b10Sum.f k l = some (l.foldl (fun a x => wrap64 (a + x)) 0) := by
  unfold laws_b10Sum.f
  exact b10Sum_loop l hb l.length k 0 0 (by omega) hk

end Go.Proofs.Ytegjebiocgbmpaa.P
