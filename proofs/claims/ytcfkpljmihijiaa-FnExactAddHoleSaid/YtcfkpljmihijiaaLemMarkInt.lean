/- A list is marked with rising numbers, and still holds them. -/
import Derived.Test.YtcfkpljmihijiaaLemCore
import Derived.Test.YtcfkpljmihijiaaPx9
namespace Go.Proofs.Ytcfkpljmihijiaa.P
open Go.RowKit Go.Proofs.Ytcfkpljmihijiaa.P Go.Proofs.YtcfkpljmihijiaaW.PrintWords Go.Proofs.YtcfkpljmihijiaaW.PrintLast Go.Proofs.YtcfkpljmihijiaaW.PrintMore
set_option linter.unusedVariables false
set_option linter.unusedSimpArgs false
theorem markInt_loop (n : Nat) (hb : n ≤ 4000000000000000000) (m : Int) (hm : 0 ≤ m ∧ m ≤ 4000000000000000000) : ∀ (d k i : Nat) (l : List Int), i + d = n → d < k → l.length = n → l.take i = (iota m n).take i → laws_markInt64S.l0 k l (m + i) i = some (m + n, iota m n) := by
  intro d
  induction d with
  | zero =>
    intro k i l hi hk hl ht
    obtain ⟨k, rfl⟩ : ∃ m, k = m + 1 := ⟨k - 1, by omega⟩
    simp only [laws_markInt64S.l0]
    rw [if_neg (by omega)]
    rw [List.take_of_length_le (by omega), List.take_of_length_le (by rw [iota_length]; omega)] at ht
    rw [ht, show i = n by omega]
  | succ d ih =>
    intro k i l hi hk hl ht
    obtain ⟨k, rfl⟩ : ∃ m, k = m + 1 := ⟨k - 1, by omega⟩
    simp only [laws_markInt64S.l0]
    rw [if_pos (by omega), if_pos (by omega), w64s i (by omega), Int.toNat_natCast, w64 (m + i + 1) (by omega) (by omega), show m + (i : Int) + 1 = m + ((i + 1 : Nat) : Int) by omega]
    exact ih k (i + 1) _ (by omega) (by omega) (by rw [List.length_set]; exact hl) (fill_step (iota m n) l i _ (by rw [iota_length]; omega) (by rw [iota_length]; exact hl) ht (iota_get m n i (by rw [iota_length]; omega)))
theorem markInt_is (k : Nat) (l : List Int) (m : Int) (hm : 0 ≤ m ∧ m ≤ 4000000000000000000) (hb : l.length ≤ 4000000000000000000) (hk : l.length < k) : laws_markInt64S.f k l m = some (m + l.length, iota m l.length) := by
  unfold laws_markInt64S.f
  have := markInt_loop l.length hb m hm l.length k 0 l (by omega) hk rfl (by simp)
  simpa using this

end Go.Proofs.Ytcfkpljmihijiaa.P

