/- The program's spare is the plain one. -/
import Derived.Test.YtajndapolblhmaaLemCore
import Derived.Test.YtajndapolblhmaaLemGrouts
import Derived.Test.YtajndapolblhmaaLemImplGrouts
import Derived.Test.YtajndapolblhmaaLemImplSet
import Derived.Test.YtajndapolblhmaaLemRdGrout
import Derived.Test.YtajndapolblhmaaLemSpareOf
import Derived.Test.YtajndapolblhmaaPx0
import Derived.Test.YtajndapolblhmaaPx16
namespace Go.Proofs.Ytajndapolblhmaa.P
open Go.RowKit Go.Proofs.Ytajndapolblhmaa.P Go.Proofs.YtajndapolblhmaaW.PrintWords Go.Proofs.YtajndapolblhmaaW.PrintLast Go.Proofs.YtajndapolblhmaaW.PrintMore
set_option linter.unusedVariables false
set_option linter.unusedSimpArgs false
theorem implSpare_loop (l : List S40) (hb : l.length ≤ 9223372036854775806) : ∀ (d k i : Nat) (s : Int), i + d = l.length → d < k → impl_SpareOf.l0 k s l l.length i = some (spareGo s (l.drop i), true) := by
  intro d
  induction d with
  | zero =>
    intro k i s hi hk
    obtain ⟨k, rfl⟩ : ∃ m, k = m + 1 := ⟨k - 1, by omega⟩
    simp only [impl_SpareOf.l0]
    rw [if_neg (by omega), List.drop_of_length_le (by omega)]
    rfl
  | succ d ih =>
    intro k i s hi hk
    obtain ⟨k, rfl⟩ : ∃ m, k = m + 1 := ⟨k - 1, by omega⟩
    rw [dropGrout_at l i (by omega)]
    simp only [impl_SpareOf.l0, spareGo]
    rw [if_pos (by omega), if_pos (by omega), if_pos (by omega), implSet_is, bind_some_, w64s i (by omega), ih k (i + 1) _ (by omega) (by omega)]
    rfl
theorem implSpare_is (k : Nat) (l : List S40) (hb : l.length ≤ 9223372036854775806) (hk : l.length < k) : impl_SpareOf.f k l = some (spareOf l) := by
  unfold impl_SpareOf.f spareOf
  rw [implGrouts_is k l hb hk, bind_some_]
  by_cases h : grValid l = true
  · rw [if_pos h, if_pos h]
    exact implSpare_loop l hb l.length k 0 0 (by omega) hk
  · rw [if_neg h, if_neg h]

end Go.Proofs.Ytajndapolblhmaa.P
