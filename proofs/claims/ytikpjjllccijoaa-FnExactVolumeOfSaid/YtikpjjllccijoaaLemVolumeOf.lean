/- The sum of a settled list, as both sides reckon it. -/
import Derived.Test.YtikpjjllccijoaaLemCore
import Derived.Test.YtikpjjllccijoaaLemImplSettled
import Derived.Test.YtikpjjllccijoaaLemSettled
import Derived.Test.YtikpjjllccijoaaLemSpecSettled
import Derived.Test.YtikpjjllccijoaaPx29
namespace Go.Proofs.Ytikpjjllccijoaa.P
open Go.RowKit Go.Proofs.Ytikpjjllccijoaa.P Go.Proofs.YtikpjjllccijoaaW.PrintWords Go.Proofs.YtikpjjllccijoaaW.PrintLast Go.Proofs.YtikpjjllccijoaaW.PrintMore
set_option linter.unusedVariables false
set_option linter.unusedSimpArgs false
def sumW (a : Int) (l : List Int) : Int := l.foldl (fun s x => wrap64 (s + x)) a
def volOf (l : List Int) : Int × Bool := if stOk l = true then (sumW 0 l, true) else (0, false)
theorem specVol_loop (l : List Int) (hb : l.length ≤ 9223372036854775806) : ∀ (d k i : Nat) (a : Int), i + d = l.length → d < k → spec_VolumeOf.l0 k l a i = some (sumW a (l.drop i), true) := by
  intro d
  induction d with
  | zero =>
    intro k i a hi hk
    obtain ⟨k, rfl⟩ : ∃ m, k = m + 1 := ⟨k - 1, by omega⟩
    simp only [spec_VolumeOf.l0]
    rw [if_neg (by omega), List.drop_of_length_le (by omega)]
    rfl
  | succ d ih =>
    intro k i a hi hk
    obtain ⟨k, rfl⟩ : ∃ m, k = m + 1 := ⟨k - 1, by omega⟩
    simp only [spec_VolumeOf.l0]
    rw [if_pos (by omega), if_pos (by omega), w64s i (by omega), ih k (i + 1) _ (by omega) (by omega), drop_at l i (by omega)]
    rfl
theorem implVol_loop (l : List Int) (hb : l.length ≤ 9223372036854775806) : ∀ (d k i : Nat) (a : Int), i + d = l.length → d < k → impl_VolumeOf.l0 k a l l.length i = some (sumW a (l.drop i), true) := by
  intro d
  induction d with
  | zero =>
    intro k i a hi hk
    obtain ⟨k, rfl⟩ : ∃ m, k = m + 1 := ⟨k - 1, by omega⟩
    simp only [impl_VolumeOf.l0]
    rw [if_neg (by omega), List.drop_of_length_le (by omega)]
    rfl
  | succ d ih =>
    intro k i a hi hk
    obtain ⟨k, rfl⟩ : ∃ m, k = m + 1 := ⟨k - 1, by omega⟩
    simp only [impl_VolumeOf.l0]
    rw [if_pos (by omega), if_pos (by omega), if_pos (by omega), w64s i (by omega), ih k (i + 1) _ (by omega) (by omega), drop_at l i (by omega)]
    rfl
theorem specVol_is (k : Nat) (l : List Int) (hb : l.length ≤ 9223372036854775806) (hk : l.length < k) : spec_VolumeOf.f k l = some (volOf l) := by
  unfold spec_VolumeOf.f volOf
  rw [specSettled_is k l hb hk, bind_some_]
  by_cases h : stOk l = true
  · rw [if_pos h, if_pos h]
    exact specVol_loop l hb l.length k 0 0 (by omega) hk
  · rw [if_neg h, if_neg h]
theorem implVol_is (k : Nat) (l : List Int) (hb : l.length ≤ 9223372036854775806) (hk : l.length < k) : impl_VolumeOf.f k l = some (volOf l) := by
  unfold impl_VolumeOf.f volOf
  rw [implSettled_is l, bind_some_]
  by_cases h : stOk l = true
  · rw [if_pos h, if_pos h]
    exact implVol_loop l hb l.length k 0 0 (by omega) hk
  · rw [if_neg h, if_neg h]

end Go.Proofs.Ytikpjjllccijoaa.P
