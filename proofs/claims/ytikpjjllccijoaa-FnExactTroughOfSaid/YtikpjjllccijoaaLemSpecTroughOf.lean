/- The reference's TroughOf, plainly. -/
import Derived.Test.YtikpjjllccijoaaLemCore
import Derived.Test.YtikpjjllccijoaaLemIn
import Derived.Test.YtikpjjllccijoaaLemSpecTrough
import Derived.Test.YtikpjjllccijoaaLemTrough
import Derived.Test.YtikpjjllccijoaaPx30
import Derived.Test.YtikpjjllccijoaaPx4
namespace Go.Proofs.Ytikpjjllccijoaa.P
open Go.RowKit Go.Proofs.Ytikpjjllccijoaa.P Go.Proofs.YtikpjjllccijoaaW.PrintWords Go.Proofs.YtikpjjllccijoaaW.PrintLast Go.Proofs.YtikpjjllccijoaaW.PrintMore
set_option linter.unusedVariables false
set_option linter.unusedSimpArgs false
def trOf (v w : Int) : List Int × Bool := if (0 ≤ v ∧ v ≤ 100000) ∧ (0 ≤ w ∧ w ≤ 5) then (trough v w.toNat, true) else ([], false)
theorem specTroughOf_is (k : Nat) (v w : Int) (hk : 200 ≤ k) : spec_TroughOf.f k v w = some (trOf v w) := by
  unfold spec_TroughOf.f spec_l07Litres.f trOf
  simp only [in_is, bind_some_]
  by_cases h1 : (0 ≤ v ∧ v ≤ 100000)
  · by_cases h2 : (0 ≤ w ∧ w ≤ 5)
    · obtain ⟨n, rfl⟩ : ∃ n : Nat, w = n := ⟨w.toNat, by omega⟩
      rw [if_pos (by simpa using h1), if_pos (by simpa using h2), specTrough_is k v n h1 (by omega) hk, bind_some_, if_pos ⟨h1, h2⟩]
      rfl
    · rw [if_pos (by simpa using h1), if_neg (by simpa using h2), if_neg (by intro h; exact h2 h.2)]
  · rw [if_neg (by simpa using h1), if_neg (by intro h; exact h1 h.1)]

end Go.Proofs.Ytikpjjllccijoaa.P
