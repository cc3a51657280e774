/- What the program asks of a list of losses. -/
import Derived.Test.YtegjebiocgbmpaaDoorLemCore
import Derived.Test.YtegjebiocgbmpaaDoorLemLosses
import Derived.Test.YtegjebiocgbmpaaDoorLemUpTo
import Derived.Test.YtegjebiocgbmpaaDoorLemWithin
import Derived.Test.YtegjebiocgbmpaaDoorPx0
import Derived.Test.YtegjebiocgbmpaaDoorPx1
namespace Go.Proofs.YtegjebiocgbmpaaDoor.P
open Go.RowKit Go.Proofs.YtegjebiocgbmpaaDoor.P Go.Proofs.YtegjebiocgbmpaaDoorW.PrintWords Go.Proofs.YtegjebiocgbmpaaDoorW.PrintLast Go.Proofs.YtegjebiocgbmpaaDoorW.PrintMore
set_option linter.unusedVariables false
set_option linter.unusedSimpArgs false
theorem implLosses_loop (l : List S26) (hb : l.length ≤ 9223372036854775806) : ∀ (d k i : Nat), i + d = l.length → d < k → impl_ValidLosses.l0 k l l l.length i = some (upTo (lsOk l) d i && decide ((l.length : Int) ≤ 12)) := by
  intro d
  induction d with
  | zero =>
    intro k i hi hk
    obtain ⟨k, rfl⟩ : ∃ m, k = m + 1 := ⟨k - 1, by omega⟩
    simp only [impl_ValidLosses.l0]
    rw [if_neg (by omega)]
    simp [upTo]
  | succ d ih =>
    intro k i hi hk
    obtain ⟨k, rfl⟩ : ∃ m, k = m + 1 := ⟨k - 1, by omega⟩
    have hr := ih k (i + 1) (by omega) (by omega)
    rw [← w64s i (by omega)] at hr
    simp only [impl_ValidLosses.l0, within_is, bind_some_, hr]
    rw [if_pos (by omega), if_pos (by omega), if_pos (by omega)]
    simp only [upTo, lsOk, ite_tt, Bool.and_assoc]
    generalize decide (0 ≤ (rd_T26 l i).f1 ∧ (rd_T26 l i).f1 ≤ 100000) = a
    generalize decide (0 ≤ (rd_T26 l i).f2 ∧ (rd_T26 l i).f2 ≤ 5) = b
    cases a <;> cases b <;> rfl
theorem implLosses_is (k : Nat) (l : List S26) (hb : l.length ≤ 9223372036854775806) (hk : l.length < k) : impl_ValidLosses.f k l = some (lsValid l) := by
  unfold impl_ValidLosses.f lsValid
  exact implLosses_loop l hb l.length k 0 (by omega) hk

end Go.Proofs.YtegjebiocgbmpaaDoor.P
