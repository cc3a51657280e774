/- What the reference asks of few numbers. -/
import Derived.Test.YtegjebiocgbmpaaLemCore
import Derived.Test.YtegjebiocgbmpaaLemIn
import Derived.Test.YtegjebiocgbmpaaLemRow
import Derived.Test.YtegjebiocgbmpaaPx5
namespace Go.Proofs.Ytegjebiocgbmpaa.P
open Go.RowKit Go.Proofs.Ytegjebiocgbmpaa.P Go.Proofs.YtegjebiocgbmpaaW.PrintWords Go.Proofs.YtegjebiocgbmpaaW.PrintLast Go.Proofs.YtegjebiocgbmpaaW.PrintMore
set_option linter.unusedVariables false
set_option linter.unusedSimpArgs false
theorem specRow_loop (m : Int) (l : List Int) (hb : l.length ≤ 9223372036854775806) : ∀ (d k i : Nat), i + d = l.length → d < k → spec_l07Row.l0 k l m i = some (((l.drop i).all fun n => decide (0 ≤ n ∧ n ≤ m)) && decide (1 ≤ (l.length : Int) ∧ (l.length : Int) ≤ 12)) := by
  intro d
  induction d with
  | zero =>
    intro k i hi hk
    obtain ⟨k, rfl⟩ : ∃ m, k = m + 1 := ⟨k - 1, by omega⟩
    simp only [spec_l07Row.l0]
    rw [if_neg (by omega), List.drop_of_length_le (by omega)]
    by_cases h : (l.length : Int) ≥ 1
    · rw [if_pos h]; simp [show 1 ≤ (l.length : Int) from h]
    · rw [if_neg h]; simp; omega
  | succ d ih =>
    intro k i hi hk
    obtain ⟨k, rfl⟩ : ∃ m, k = m + 1 := ⟨k - 1, by omega⟩
    have hr := ih k (i + 1) (by omega) (by omega)
    rw [← w64s i (by omega)] at hr
    simp only [spec_l07Row.l0, in_is, bind_some_, hr]
    rw [if_pos (by omega), if_pos (by omega), drop_at l i (by omega), ite_tt, List.all_cons, Bool.and_assoc]
theorem specRow_is (k : Nat) (m : Int) (l : List Int) (hb : l.length ≤ 9223372036854775806) (hk : l.length < k) : spec_l07Row.f k l m = some (rowOk m l) := by
  unfold spec_l07Row.f rowOk
  have := specRow_loop m l hb l.length k 0 (by omega) hk
  rw [Bool.and_comm]
  simpa using this

end Go.Proofs.Ytegjebiocgbmpaa.P
