/- The program's IsLifted is the plain one. -/
import Derived.Test.YtegjebiocgbmpaaLemCore
import Derived.Test.YtegjebiocgbmpaaLemImplLifts
import Derived.Test.YtegjebiocgbmpaaLemImplNeedsRow
import Derived.Test.YtegjebiocgbmpaaLemImplUnits
import Derived.Test.YtegjebiocgbmpaaLemIsLifted
import Derived.Test.YtegjebiocgbmpaaLemLifts
import Derived.Test.YtegjebiocgbmpaaLemRow
import Derived.Test.YtegjebiocgbmpaaPx4
namespace Go.Proofs.Ytegjebiocgbmpaa.P
open Go.RowKit Go.Proofs.Ytegjebiocgbmpaa.P Go.Proofs.YtegjebiocgbmpaaW.PrintWords Go.Proofs.YtegjebiocgbmpaaW.PrintLast Go.Proofs.YtegjebiocgbmpaaW.PrintMore
set_option linter.unusedVariables false
set_option linter.unusedSimpArgs false
theorem implMet_loop (n u : List Int) (hl : u.length = n.length) (hb : n.length ≤ 1000000) : ∀ (d k i : Nat), i + d = n.length → d < k → impl_IsLifted.l0 k n u u.length i = some (metGo n u d i) := by
  intro d
  induction d with
  | zero =>
    intro k i hi hk
    obtain ⟨k, rfl⟩ : ∃ m, k = m + 1 := ⟨k - 1, by omega⟩
    simp only [impl_IsLifted.l0]
    rw [if_neg (by omega)]
    rfl
  | succ d ih =>
    intro k i hi hk
    obtain ⟨k, rfl⟩ : ∃ m, k = m + 1 := ⟨k - 1, by omega⟩
    simp only [impl_IsLifted.l0, metGo]
    rw [if_pos (by omega), if_pos (by omega), if_pos (by omega), if_pos (by omega), w64s i (by omega), ih k (i + 1) (by omega) (by omega), ite_ff]
theorem implIsLifted_is (k : Nat) (n u : List Int) (hk : n.length + u.length + 2 < k) : impl_IsLifted.f k n u = some (isLiftedP n u) := by
  obtain ⟨k, rfl⟩ : ∃ m, k = m + 1 := ⟨k - 1, by omega⟩
  unfold impl_IsLifted.f isLiftedP
  rw [implNeedsRow_is, bind_some_, implUnits_is, bind_some_]
  simp only [impl_IsLifted.j0]
  by_cases h1 : rowOk 12 n = true
  · by_cases h2 : rowOk 6 u = true
    · have l1 := rowOk_len h1
      have l2 := rowOk_len h2
      by_cases h3 : u.length = n.length
      · have := implMet_loop n (liftsOf u) (by rw [liftsOf_len]; exact h3) (by omega) n.length k 0 (by omega) (by omega)
        rw [show ((0 : Nat) : Int) = 0 by rfl] at this
        simp [h1, h2, h3, implLifts_is k u (by omega) (by omega), this]
      · have h4 : ((n.length : Int) != (u.length : Int)) = true := by rw [bne_iff_ne]; omega
        simp [h1, h2, h3, h4]
    · simp [h1, h2]
  · simp [h1]

end Go.Proofs.Ytegjebiocgbmpaa.P
