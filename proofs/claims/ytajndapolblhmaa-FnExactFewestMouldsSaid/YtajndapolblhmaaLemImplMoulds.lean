/- The program's fewest moulds are the plain ones. -/
import Derived.Test.YtajndapolblhmaaLemCore
import Derived.Test.YtajndapolblhmaaLemImplOrders
import Derived.Test.YtajndapolblhmaaLemImplRhythm
import Derived.Test.YtajndapolblhmaaLemMoulds
import Derived.Test.YtajndapolblhmaaLemOrders
import Derived.Test.YtajndapolblhmaaLemOrdersMore
import Derived.Test.YtajndapolblhmaaLemRdOrder
import Derived.Test.YtajndapolblhmaaLemWorks
import Derived.Test.YtajndapolblhmaaPx0
import Derived.Test.YtajndapolblhmaaPx26
namespace Go.Proofs.Ytajndapolblhmaa.P
open Go.RowKit Go.Proofs.Ytajndapolblhmaa.P Go.Proofs.YtajndapolblhmaaW.PrintWords Go.Proofs.YtajndapolblhmaaW.PrintLast Go.Proofs.YtajndapolblhmaaW.PrintMore
set_option linter.unusedVariables false
set_option linter.unusedSimpArgs false
theorem implMoulds_loop (b c : Int) (l : List S119) (hr : rhOk b c = true) (hl : orValid l = true) : ∀ (d k i : Nat) (m du w : Int), i + d = l.length → d < k → 0 ≤ w → w ≤ 200 * i → impl_FewestMoulds.l0 k b c m du w l l.length i = some (fmGo b c m du w (l.drop i)) := by
  have h8 := orValid_len hl
  intro d
  induction d with
  | zero =>
    intro k i m du w hi hk h0 h1
    obtain ⟨k, rfl⟩ : ∃ m, k = m + 1 := ⟨k - 1, by omega⟩
    simp only [impl_FewestMoulds.l0]
    rw [if_neg (by omega), List.drop_of_length_le (by omega)]
    simp only [fmGo]
    split <;> rfl
  | succ d ih =>
    intro k i m du w hi hk h0 h1
    obtain ⟨k, rfl⟩ : ∃ m, k = m + 1 := ⟨k - 1, by omega⟩
    obtain ⟨o1, o2⟩ := orValid_at hl i (by omega)
    rw [dropOrder_at l i (by omega)]
    simp only [impl_FewestMoulds.l0, fmGo]
    have hc := castOf_in hr (show -1000 ≤ (rd_T119 l i).f0 ∧ (rd_T119 l i).f0 ≤ 1000 by omega)
    rw [if_pos (by omega), if_pos (by omega), if_pos (by omega), implCasts_is b c _ hr (by omega), bind_some_]
    by_cases hz : castOf b c (rd_T119 l i).f0 = 0
    · rw [if_pos hz, if_pos hz]
    · have hn := fmNeed_in (w + (rd_T119 l i).f1) (castOf b c (rd_T119 l i).f0) (by omega) (by omega)
      have e : wrap64 (Int.tdiv (wrap64 (wrap64 (wrap64 (w + (rd_T119 l i).f1) + castOf b c (rd_T119 l i).f0) - 1)) (castOf b c (rd_T119 l i).f0)) = fmNeed (w + (rd_T119 l i).f1) (castOf b c (rd_T119 l i).f0) := by
        unfold fmNeed at hn ⊢
        rw [w64 (w + _) (by omega) (by omega), w64 (w + _ + _) (by omega) (by omega), w64 (w + _ + _ - 1) (by omega) (by omega), Int.tdiv_eq_ediv_of_nonneg (by omega), w64 _ (by omega) (by omega)]
      rw [if_neg hz, if_neg hz, e, w64 (w + _) (by omega) (by omega), w64s i (by omega), ih k (i + 1) _ _ _ (by omega) (by omega) (by omega) (by omega), ih k (i + 1) _ _ _ (by omega) (by omega) (by omega) (by omega)]
      split <;> rfl
theorem implMoulds_is (k : Nat) (b c : Int) (l : List S119) (hb : l.length ≤ 9223372036854775806) (hk : 1 + l.length < k) : impl_FewestMoulds.f k b c l = some (fmOf b c l) := by
  obtain ⟨k, rfl⟩ : ∃ m, k = m + 1 := ⟨k - 1, by omega⟩
  unfold impl_FewestMoulds.f fmOf
  rw [implRhythm_is, bind_some_, implOrders_is _ l hb (by omega), bind_some_]
  simp only [impl_FewestMoulds.j0]
  by_cases h1 : rhOk b c = true
  · by_cases h2 : orValid l = true
    · have := implMoulds_loop b c l h1 h2 l.length k 0 0 0 0 (by omega) (by omega) (by omega) (by omega)
      rw [show ((0 : Nat) : Int) = 0 by rfl, List.drop_zero] at this
      by_cases h3 : l.length = 0
      · simp [h1, h2, h3]
      · rw [if_pos h1, if_pos h2, if_pos (show rhOk b c = true ∧ orValid l = true ∧ ¬ l.length = 0 from ⟨h1, h2, h3⟩), if_neg (by simp; intro h; exact h3 (by rw [h]; rfl)), this]
    · simp [h1, h2]
  · simp [h1]

end Go.Proofs.Ytajndapolblhmaa.P
