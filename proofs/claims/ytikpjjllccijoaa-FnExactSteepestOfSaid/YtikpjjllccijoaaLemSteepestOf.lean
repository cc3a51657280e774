/- Where a settled list is steepest, as both sides find it. -/
import Derived.Test.YtikpjjllccijoaaLemCore
import Derived.Test.YtikpjjllccijoaaLemImplSettled
import Derived.Test.YtikpjjllccijoaaLemSettled
import Derived.Test.YtikpjjllccijoaaLemSpecSettled
import Derived.Test.YtikpjjllccijoaaPx14
import Derived.Test.YtikpjjllccijoaaPx32
namespace Go.Proofs.Ytikpjjllccijoaa.P
open Go.RowKit Go.Proofs.Ytikpjjllccijoaa.P Go.Proofs.YtikpjjllccijoaaW.PrintWords Go.Proofs.YtikpjjllccijoaaW.PrintLast Go.Proofs.YtikpjjllccijoaaW.PrintMore
set_option linter.unusedVariables false
set_option linter.unusedSimpArgs false
def absW (x : Int) : Int := if x < wrap64 (-x) then wrap64 (-x) else x
theorem implAbs_is (x : Int) : impl_abs.f x = some (absW x) := rfl
theorem specAbs_is (x : Int) : spec_l03Abs.f x = some (absW x) := by
  unfold spec_l03Abs.f spec_l00Max.f absW
  by_cases h1 : x > wrap64 (-x)
  · rw [if_pos h1, bind_some_, if_neg (by omega)]
  · rw [if_neg h1, bind_some_]
    by_cases h2 : x < wrap64 (-x)
    · rw [if_pos h2]
    · rw [if_neg h2]; exact congrArg some (by omega)
def steepFrom (l : List Int) : Nat → Nat → Int → Int → Int × Int × Bool
  | 0, _, at_, best => (at_, best, true)
  | d + 1, i, at_, best => if absW (wrap64 (rd l i - rd l (i + 1 : Nat))) > best then steepFrom l d (i + 1) i (absW (wrap64 (rd l i - rd l (i + 1 : Nat)))) else steepFrom l d (i + 1) at_ best
def steepOf (l : List Int) : Int × Int × Bool := if stOk l = true then steepFrom l 23 0 0 (-1) else (0, 0, false)
theorem specSteep_loop (l : List Int) (hl : l.length = 24) : ∀ (d k i : Nat) (at_ best : Int), i + d = 23 → d < k → spec_SteepestOf.l0 k l at_ best i = some (steepFrom l d i at_ best) := by
  intro d
  induction d with
  | zero =>
    intro k i a b hi hk
    obtain ⟨k, rfl⟩ : ∃ m, k = m + 1 := ⟨k - 1, by omega⟩
    simp only [spec_SteepestOf.l0]
    rw [w64s i (by omega), if_neg (by omega)]
    rfl
  | succ d ih =>
    intro k i a b hi hk
    obtain ⟨k, rfl⟩ : ∃ m, k = m + 1 := ⟨k - 1, by omega⟩
    simp only [spec_SteepestOf.l0, steepFrom]
    rw [w64s i (by omega), if_pos (by omega), if_pos (by omega), if_pos (by omega), if_pos (by omega), specAbs_is, bind_some_, ih k (i + 1) _ _ (by omega) (by omega), ih k (i + 1) _ _ (by omega) (by omega)]
    split <;> rfl
theorem implSteep_loop (l : List Int) (hl : l.length = 24) : ∀ (d k i : Nat) (at_ best : Int), i + d = 23 → d < k → impl_SteepestOf.l0 k l at_ best i = some (steepFrom l d i at_ best) := by
  intro d
  induction d with
  | zero =>
    intro k i a b hi hk
    obtain ⟨k, rfl⟩ : ∃ m, k = m + 1 := ⟨k - 1, by omega⟩
    simp only [impl_SteepestOf.l0]
    rw [if_neg (by omega)]
    rfl
  | succ d ih =>
    intro k i a b hi hk
    obtain ⟨k, rfl⟩ : ∃ m, k = m + 1 := ⟨k - 1, by omega⟩
    simp only [impl_SteepestOf.l0, steepFrom]
    rw [w64s i (by omega), if_pos (by omega), if_pos (by omega), if_pos (by omega), if_pos (by omega), if_pos (by omega), implAbs_is, bind_some_, ih k (i + 1) _ _ (by omega) (by omega), ih k (i + 1) _ _ (by omega) (by omega)]
    split <;> rfl
theorem specSteep_is (k : Nat) (l : List Int) (hb : l.length ≤ 9223372036854775806) (hk : l.length < k) (hk2 : 30 ≤ k) : spec_SteepestOf.f k l = some (steepOf l) := by
  unfold spec_SteepestOf.f steepOf
  rw [specSettled_is k l hb hk, bind_some_]
  by_cases h : stOk l = true
  · rw [if_pos h, if_pos h]
    exact specSteep_loop l (stOk_len h) 23 k 0 0 (-1) (by omega) (by omega)
  · rw [if_neg h, if_neg h]
theorem implSteep_is (k : Nat) (l : List Int) (hk2 : 30 ≤ k) : impl_SteepestOf.f k l = some (steepOf l) := by
  unfold impl_SteepestOf.f steepOf
  rw [implSettled_is l, bind_some_]
  by_cases h : stOk l = true
  · rw [if_pos h, if_pos h]
    exact implSteep_loop l (stOk_len h) 23 k 0 0 (-1) (by omega) (by omega)
  · rw [if_neg h, if_neg h]

end Go.Proofs.Ytikpjjllccijoaa.P
