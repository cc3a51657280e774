/- The stretches of a settled list, as the program tells them. -/
import Derived.Test.YtajndapolblhmaaLemCore
import Derived.Test.YtajndapolblhmaaLemImplSettled
import Derived.Test.YtajndapolblhmaaLemSettled
import Derived.Test.YtajndapolblhmaaLemStretch
import Derived.Test.YtajndapolblhmaaLemWithin
import Derived.Test.YtajndapolblhmaaPx0
import Derived.Test.YtajndapolblhmaaPx40
namespace Go.Proofs.Ytajndapolblhmaa.P
open Go.RowKit Go.Proofs.Ytajndapolblhmaa.P Go.Proofs.YtajndapolblhmaaW.PrintWords Go.Proofs.YtajndapolblhmaaW.PrintLast Go.Proofs.YtajndapolblhmaaW.PrintMore
set_option linter.unusedVariables false
set_option linter.unusedSimpArgs false
theorem implStr_loop (l : List Int) (hb : l.length ≤ 1000000) (w : Int) : ∀ (d k i : Nat) (rs : List (Nat × Nat)), i + d = l.length → d < k → rs.length ≤ i → strInv l w rs i → impl_StretchesAt.l0 k l w (rs.map strRow) l l.length i = some (strGo l w d i (rs.map strRow), true) := by
  intro d
  induction d with
  | zero =>
    intro k i rs hi hk hl h
    obtain ⟨k, rfl⟩ : ∃ m, k = m + 1 := ⟨k - 1, by omega⟩
    simp only [impl_StretchesAt.l0, strGo]
    rw [if_neg (by omega)]
  | succ d ih =>
    intro k i rs hi hk hl h
    obtain ⟨k, rfl⟩ : ∃ m, k = m + 1 := ⟨k - 1, by omega⟩
    simp only [impl_StretchesAt.l0, strGo]
    rw [if_pos (by omega), if_pos (by omega), if_pos (by omega), w64s i (by omega)]
    by_cases h1 : rd l (i : Int) < w
    · rw [if_pos h1, if_pos h1]
      exact ih k (i + 1) rs (by omega) (by omega) (by omega) (strInv_low h h1)
    · rw [if_neg h1, if_neg h1]
      have e2 : rs.map strRow ++ [[(i : Int), (i : Int)]] = (rs ++ [(i, i)]).map strRow := by simp [strRow]
      have hnew := ih k (i + 1) (rs ++ [(i, i)]) (by omega) (by omega) (by simp; omega) (strInv_new h (by omega))
      rw [← e2] at hnew
      by_cases h0 : 0 < i
      · have e : wrap64 ((i : Int) - 1) = ((i - 1 : Nat) : Int) := by rw [w64 _ (by omega) (by omega)]; omega
        rw [if_pos (show (i : Int) > 0 by omega), e, if_pos (by omega), if_pos (by omega)]
        by_cases h2 : rd l ((i - 1 : Nat) : Int) ≥ w
        · rw [if_pos h2, if_pos (And.intro h0 h2)]
          obtain ⟨m, rfl⟩ : ∃ m, i = m + 1 := ⟨i - 1, by omega⟩
          obtain ⟨rs0, a, rfl⟩ := h.2.2 m rfl h2
          have e3 : ((rs0 ++ [(a, m)]).map strRow).set (((rs0 ++ [(a, m)]).map strRow).length - 1) ((rd_L1 ((rs0 ++ [(a, m)]).map strRow) ((((rs0 ++ [(a, m)]).map strRow).length - 1 : Nat) : Int)).set 1 ((m + 1 : Nat) : Int)) = (rs0 ++ [(a, m + 1)]).map strRow := by
            rw [rdL_at _ _ (by simp)]
            simp [strRow]
          have hl2 : ((rs0 ++ [(a, m)]).map strRow).length = rs0.length + 1 := by simp
          have hl3 : (rs0 ++ [(a, m)]).length = rs0.length + 1 := by simp
          have e4 : wrap64 ((((rs0 ++ [(a, m)]).map strRow).length : Int) - 1) = ((((rs0 ++ [(a, m)]).map strRow).length - 1 : Nat) : Int) := by rw [w64 _ (by omega) (by omega)]; omega
          have hrow : 1 < ((rd_L1 ((rs0 ++ [(a, m)]).map strRow) ((((rs0 ++ [(a, m)]).map strRow).length - 1 : Nat) : Int)).length : Int) := by
            rw [rdL_at _ _ (by simp)]
            simp [strRow]
          rw [e4, if_pos (by omega), if_pos (by omega), if_pos hrow, Int.toNat_natCast, show (1 : Int).toNat = 1 from rfl, e3]
          exact ih k (m + 1 + 1) _ (by omega) (by omega) (by simp; omega) (strInv_grow h (by omega))
        · rw [if_neg h2, if_neg (show ¬ (0 < i ∧ rd l ((i - 1 : Nat) : Int) ≥ w) from fun q => h2 q.2), if_pos (by simp; omega)]
          exact hnew
      · rw [if_neg (show ¬ (i : Int) > 0 by omega), if_neg (show ¬ (0 < i ∧ rd l ((i - 1 : Nat) : Int) ≥ w) from fun q => h0 q.1), if_pos (by simp; omega)]
        exact hnew
theorem implStr_is (l : List Int) (w : Int) (hl : stOk l = true) (hw : 1 ≤ w ∧ w ≤ 2000000) : ∃ rs, (∀ k : Nat, 50 ≤ k → impl_StretchesAt.f k l w = some (rs.map strRow, true)) ∧ strInv l w rs 24 ∧ rs.length ≤ 24 := by
  have h24 := stOk_len hl
  obtain ⟨rs, h1, h2, hlen⟩ := strGo_ok l w l.length 0 [] (strInv_nil l w)
  refine ⟨rs, ?_, by rw [h24, Nat.zero_add] at h2; exact h2, by rw [h24] at hlen; simpa using hlen⟩
  intro k hk
  obtain ⟨k, rfl⟩ : ∃ m, k = m + 1 := ⟨k - 1, by omega⟩
  have h3 := implStr_loop l (by omega) w l.length k 0 [] (by omega) (by omega) (by simp) (strInv_nil l w)
  unfold impl_StretchesAt.f
  rw [implSettled_is, bind_some_, if_pos hl, within_is, bind_some_, decide_eq_true hw]
  simp only [impl_StretchesAt.j0]
  rw [if_neg (by simp), ← h1]
  exact h3

end Go.Proofs.Ytajndapolblhmaa.P
