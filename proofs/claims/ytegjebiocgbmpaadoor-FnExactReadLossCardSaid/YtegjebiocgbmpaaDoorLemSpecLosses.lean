/- What the reference asks of a list of losses. -/
import Derived.Test.YtegjebiocgbmpaaDoorLemCore
import Derived.Test.YtegjebiocgbmpaaDoorLemIn
import Derived.Test.YtegjebiocgbmpaaDoorLemLosses
import Derived.Test.YtegjebiocgbmpaaDoorLemUpTo
import Derived.Test.YtegjebiocgbmpaaDoorPx0
import Derived.Test.YtegjebiocgbmpaaDoorPx2
namespace Go.Proofs.YtegjebiocgbmpaaDoor.P
open Go.RowKit Go.Proofs.YtegjebiocgbmpaaDoor.P Go.Proofs.YtegjebiocgbmpaaDoorW.PrintWords Go.Proofs.YtegjebiocgbmpaaDoorW.PrintLast Go.Proofs.YtegjebiocgbmpaaDoorW.PrintMore
set_option linter.unusedVariables false
set_option linter.unusedSimpArgs false
theorem specLosses_loop (l : List S26) (hb : l.length ≤ 9223372036854775806) : ∀ (d k i : Nat), i + d = l.length → d < k → spec_l07Losses.l0 k l i = some (upTo (lsOk l) d i && decide ((l.length : Int) ≤ 12)) := by
  intro d
  induction d with
  | zero =>
    intro k i hi hk
    obtain ⟨k, rfl⟩ : ∃ m, k = m + 1 := ⟨k - 1, by omega⟩
    simp only [spec_l07Losses.l0]
    rw [if_neg (by omega)]
    simp [upTo]
  | succ d ih =>
    intro k i hi hk
    obtain ⟨k, rfl⟩ : ∃ m, k = m + 1 := ⟨k - 1, by omega⟩
    have hr := ih k (i + 1) (by omega) (by omega)
    rw [← w64s i (by omega)] at hr
    simp only [spec_l07Losses.l0, spec_l07Litres.f, in_is, bind_some_, hr]
    rw [if_pos (by omega), if_pos (by omega)]
    simp only [upTo, lsOk, ite_tt, Bool.and_assoc]
theorem specLosses_is (k : Nat) (l : List S26) (hb : l.length ≤ 9223372036854775806) (hk : l.length < k) : spec_l07Losses.f k l = some (lsValid l) := by
  unfold spec_l07Losses.f lsValid
  exact specLosses_loop l hb l.length k 0 (by omega) hk

end Go.Proofs.YtegjebiocgbmpaaDoor.P
