/- What the reference asks of a settled list. -/
import Derived.Test.YtajndapolblhmaaLemCore
import Derived.Test.YtajndapolblhmaaLemIn
import Derived.Test.YtajndapolblhmaaLemSettled
import Derived.Test.YtajndapolblhmaaPx12
namespace Go.Proofs.Ytajndapolblhmaa.P
open Go.RowKit Go.Proofs.Ytajndapolblhmaa.P Go.Proofs.YtajndapolblhmaaW.PrintWords Go.Proofs.YtajndapolblhmaaW.PrintLast Go.Proofs.YtajndapolblhmaaW.PrintMore
set_option linter.unusedVariables false
set_option linter.unusedSimpArgs false
theorem specSettled_loop (l : List Int) (hb : l.length ≤ 9223372036854775806) : ∀ (d k i : Nat), i + d = l.length → d < k → spec_l07Settled.l0 k l i = some (((l.drop i).all fun n => decide (0 ≤ n ∧ n ≤ 2000000)) && decide ((l.length : Int) = 24)) := by
  intro d
  induction d with
  | zero =>
    intro k i hi hk
    obtain ⟨k, rfl⟩ : ∃ m, k = m + 1 := ⟨k - 1, by omega⟩
    simp only [spec_l07Settled.l0]
    rw [if_neg (by omega), List.drop_of_length_le (by omega)]
    rfl
  | succ d ih =>
    intro k i hi hk
    obtain ⟨k, rfl⟩ : ∃ m, k = m + 1 := ⟨k - 1, by omega⟩
    have hr := ih k (i + 1) (by omega) (by omega)
    rw [← w64s i (by omega)] at hr
    simp only [spec_l07Settled.l0, in_is, bind_some_, hr]
    rw [if_pos (by omega), if_pos (by omega), drop_at l i (by omega), ite_tt, List.all_cons, Bool.and_assoc]
theorem specSettled_is (k : Nat) (l : List Int) (hb : l.length ≤ 9223372036854775806) (hk : l.length < k) : spec_l07Settled.f k l = some (stOk l) := by
  unfold spec_l07Settled.f stOk
  have := specSettled_loop l hb l.length k 0 (by omega) hk
  simpa using this

end Go.Proofs.Ytajndapolblhmaa.P
