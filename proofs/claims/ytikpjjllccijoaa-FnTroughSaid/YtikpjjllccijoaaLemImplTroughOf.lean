/- The program's TroughOf, plainly. -/
import Derived.Test.YtikpjjllccijoaaLemCore
import Derived.Test.YtikpjjllccijoaaLemImplTrough
import Derived.Test.YtikpjjllccijoaaLemTrough
import Derived.Test.YtikpjjllccijoaaLemWithin
import Derived.Test.YtikpjjllccijoaaPx10
namespace Go.Proofs.Ytikpjjllccijoaa.P
open Go.RowKit Go.Proofs.Ytikpjjllccijoaa.P Go.Proofs.YtikpjjllccijoaaW.PrintWords Go.Proofs.YtikpjjllccijoaaW.PrintLast Go.Proofs.YtikpjjllccijoaaW.PrintMore
set_option linter.unusedVariables false
set_option linter.unusedSimpArgs false
def trOfI (v w : Int) : List Int × Bool := if (0 ≤ v ∧ v ≤ 100000) ∧ (0 ≤ w ∧ w ≤ 5) then (trough v w.toNat, true) else ([], false)
theorem implTroughOf_is (k : Nat) (v w : Int) (hk : 200 ≤ k) : impl_TroughOf.f k v w = some (trOfI v w) := by
  unfold impl_TroughOf.f trOfI
  simp only [within_is, bind_some_]
  by_cases h1 : (0 ≤ v ∧ v ≤ 100000)
  · by_cases h2 : (0 ≤ w ∧ w ≤ 5)
    · obtain ⟨n, rfl⟩ : ∃ n : Nat, w = n := ⟨w.toNat, by omega⟩
      rw [if_pos (by simpa using h1), if_pos (by simpa using h2), implTrough_is k v n h1 (by omega) hk, bind_some_, if_pos ⟨h1, h2⟩]
      rfl
    · rw [if_pos (by simpa using h1), if_neg (by simpa using h2), if_neg (by intro h; exact h2 h.2)]
  · rw [if_neg (by simpa using h1), if_neg (by intro h; exact h1 h.1)]

end Go.Proofs.Ytikpjjllccijoaa.P
