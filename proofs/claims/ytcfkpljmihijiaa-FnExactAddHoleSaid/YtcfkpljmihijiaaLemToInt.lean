/- A list of numbers is copied. -/
import Derived.Test.YtcfkpljmihijiaaLemCore
import Derived.Test.YtcfkpljmihijiaaPx5
namespace Go.Proofs.Ytcfkpljmihijiaa.P
open Go.RowKit Go.Proofs.Ytcfkpljmihijiaa.P Go.Proofs.YtcfkpljmihijiaaW.PrintWords Go.Proofs.YtcfkpljmihijiaaW.PrintLast Go.Proofs.YtcfkpljmihijiaaW.PrintMore
set_option linter.unusedVariables false
set_option linter.unusedSimpArgs false
theorem toInt_loop (l : List Int) (hb : l.length ≤ 9223372036854775807) : ∀ (d k i : Nat) (acc : List Int), i + d = l.length → d < k → acc.length = l.length → acc.take i = l.take i → laws_toInt64S.l0 k l acc i = some l := by
  intro d
  induction d with
  | zero =>
    intro k i acc hi hk ha ht
    obtain ⟨k, rfl⟩ : ∃ m, k = m + 1 := ⟨k - 1, by omega⟩
    simp only [laws_toInt64S.l0]
    rw [if_neg (by omega)]
    rw [List.take_of_length_le (by omega), List.take_of_length_le (by omega)] at ht
    rw [ht]
  | succ d ih =>
    intro k i acc hi hk ha ht
    obtain ⟨k, rfl⟩ : ∃ m, k = m + 1 := ⟨k - 1, by omega⟩
    simp only [laws_toInt64S.l0]
    rw [if_pos (by omega), if_pos (by omega), if_pos (by omega), w64s i (by omega), Int.toNat_natCast]
    exact ih k (i + 1) _ (by omega) (by omega) (by rw [List.length_set]; exact ha) (fill_step l acc i _ (by omega) ha ht (rd_at l i (by omega)).symm)
theorem toInt_is (k : Nat) (l : List Int) (hb : l.length ≤ 35184372088832) (hk : l.length < k) : laws_toInt64S.f k l = some l := by
  unfold laws_toInt64S.f
  rw [if_pos (by omega), if_pos (by omega)]
  exact toInt_loop l (by omega) l.length k 0 _ (by omega) hk (by simp) (by simp)

end Go.Proofs.Ytcfkpljmihijiaa.P

