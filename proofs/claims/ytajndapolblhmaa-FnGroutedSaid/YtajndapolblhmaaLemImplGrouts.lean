/- What the program asks of a list of grouts. -/
import Derived.Test.YtajndapolblhmaaLemAreWithin
import Derived.Test.YtajndapolblhmaaLemCore
import Derived.Test.YtajndapolblhmaaLemGrouts
import Derived.Test.YtajndapolblhmaaLemUpTo
import Derived.Test.YtajndapolblhmaaLemWithin
import Derived.Test.YtajndapolblhmaaPx0
import Derived.Test.YtajndapolblhmaaPx15
import Derived.Test.YtajndapolblhmaaPx3
namespace Go.Proofs.Ytajndapolblhmaa.P
open Go.RowKit Go.Proofs.Ytajndapolblhmaa.P Go.Proofs.YtajndapolblhmaaW.PrintWords Go.Proofs.YtajndapolblhmaaW.PrintLast Go.Proofs.YtajndapolblhmaaW.PrintMore
set_option linter.unusedVariables false
set_option linter.unusedSimpArgs false


theorem implGrouts_loop (l : List S40) (hb : l.length ≤ 9223372036854775806) : ∀ (d k i : Nat), i + d = l.length → d < k → impl_ValidGrouts.l0 k l l l.length i = some (upTo (grOk l) d i && decide ((l.length : Int) ≤ 12)) := by
  intro d
  induction d with
  | zero =>
    intro k i hi hk
    obtain ⟨k, rfl⟩ : ∃ m, k = m + 1 := ⟨k - 1, by omega⟩
    simp only [impl_ValidGrouts.l0]
    rw [if_neg (by omega)]
    simp [upTo]
  | succ d ih =>
    intro k i hi hk
    obtain ⟨k, rfl⟩ : ∃ m, k = m + 1 := ⟨k - 1, by omega⟩
    have hr := ih k (i + 1) (by omega) (by omega)
    rw [← w64s i (by omega)] at hr
    simp only [impl_ValidGrouts.l0, impl_areWithin.f, areWithin2, within_is, bind_some_, hr]
    rw [if_pos (by omega), if_pos (by omega), if_pos (by omega)]
    simp only [upTo, grOk]
    rcases i with _ | i
    · rw [if_neg (show ¬ (((0 : Nat) : Int) > 0) by omega)]
      simp only [ite_tt]
      simp [Bool.and_assoc]
    · have e : wrap64 (((i + 1 : Nat) : Int) - 1) = (i : Int) := by rw [w64 _ (by omega) (by omega)]; omega
      rw [if_pos (show ((i + 1 : Nat) : Int) > 0 by omega), e, if_pos (show 0 ≤ (i : Int) by omega), if_pos (show (i : Int) < (l.length : Int) by omega), show ((i + 1 - 1 : Nat) : Int) = (i : Int) by omega]
      simp only [ite_tt, ite_ff, not_ge_dec]
      simp [Bool.and_assoc]
theorem implGrouts_is (k : Nat) (l : List S40) (hb : l.length ≤ 9223372036854775806) (hk : l.length < k) : impl_ValidGrouts.f k l = some (grValid l) := by
  unfold impl_ValidGrouts.f grValid
  exact implGrouts_loop l hb l.length k 0 (by omega) hk

end Go.Proofs.Ytajndapolblhmaa.P
