/- Numbers in a range that rise, as the reference asks it. -/
import Derived.Test.YtajndapolblhmabLemCore
import Derived.Test.YtajndapolblhmabLemIn
import Derived.Test.YtajndapolblhmabLemRises
import Derived.Test.YtajndapolblhmabLemUpTo
import Derived.Test.YtajndapolblhmabPx7
namespace Go.Proofs.Ytajndapolblhmab.P
open Go.RowKit Go.Proofs.Ytajndapolblhmab.P Go.Proofs.YtajndapolblhmabW.PrintWords Go.Proofs.YtajndapolblhmabW.PrintLast Go.Proofs.YtajndapolblhmabW.PrintMore
set_option linter.unusedVariables false
set_option linter.unusedSimpArgs false
theorem specRises_loop (l : List Int) (lo hi : Int) (hb : l.length ≤ 9223372036854775806) : ∀ (d k i : Nat), i + d = l.length → d < k → spec_l00Rises.l0 k l lo hi i = some (upTo (riseOk l lo hi) d i) := by
  intro d
  induction d with
  | zero =>
    intro k i hi' hk
    obtain ⟨k, rfl⟩ : ∃ m, k = m + 1 := ⟨k - 1, by omega⟩
    simp only [spec_l00Rises.l0]
    rw [if_neg (by omega)]
    rfl
  | succ d ih =>
    intro k i hi' hk
    obtain ⟨k, rfl⟩ : ∃ m, k = m + 1 := ⟨k - 1, by omega⟩
    have hz := ih k (i + 1) (by omega) (by omega)
    simp only [spec_l00Rises.l0, in_is, bind_some_, upTo, riseOk]
    rw [if_pos (by omega), if_pos (by omega), w64s i (by omega), hz]
    by_cases h : i = 0
    · rw [if_neg (show ¬ (i : Int) > 0 by omega), ite_tt, decide_eq_true h, Bool.true_or, Bool.and_true]
    · have e : wrap64 ((i : Int) - 1) = ((i - 1 : Nat) : Int) := by rw [w64 _ (by omega) (by omega)]; omega
      rw [if_pos (show (i : Int) > 0 by omega), e, if_pos (show (0 : Int) ≤ ((i - 1 : Nat) : Int) by omega), if_pos (show ((i - 1 : Nat) : Int) < (l.length : Int) by omega), ite_ff, ite_tt, not_ge_dec, decide_eq_false h, Bool.false_or, Bool.and_assoc]
theorem specRises_is (k : Nat) (l : List Int) (lo hi : Int) (hb : l.length ≤ 9223372036854775806) (hk : l.length < k) : spec_l00Rises.f k l lo hi = some (rises l lo hi) := by
  unfold spec_l00Rises.f rises
  exact specRises_loop l lo hi hb l.length k 0 (by omega) hk

end Go.Proofs.Ytajndapolblhmab.P
