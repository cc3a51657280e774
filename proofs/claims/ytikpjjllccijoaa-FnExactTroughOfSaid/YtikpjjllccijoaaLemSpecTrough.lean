/- The reference's trough is the plain one. -/
import Derived.Test.YtikpjjllccijoaaLemCore
import Derived.Test.YtikpjjllccijoaaLemTrough
import Derived.Test.YtikpjjllccijoaaPx30
namespace Go.Proofs.Ytikpjjllccijoaa.P
open Go.RowKit Go.Proofs.Ytikpjjllccijoaa.P Go.Proofs.YtikpjjllccijoaaW.PrintWords Go.Proofs.YtikpjjllccijoaaW.PrintLast Go.Proofs.YtikpjjllccijoaaW.PrintMore
set_option linter.unusedVariables false
set_option linter.unusedSimpArgs false
theorem specTr_l2 (v : Int) (hv : 0 ≤ v ∧ v ≤ 100000) (all : Int) (ha : 1 ≤ all ∧ all ≤ 1024) (row : List Int) (hb : row.length ≤ 1000) : ∀ (d k i : Nat) (acc : List Int) (s : Int), i + d = row.length → d < k → acc.length ≤ i → tFine s (row.drop i) = true →
    spec_l07Trough.l2 k v row all acc s i = some (acc ++ tParts v all s (row.drop i)) := by
  intro d
  induction d with
  | zero =>
    intro k i acc s hi hk hacc hf
    obtain ⟨k, rfl⟩ : ∃ m, k = m + 1 := ⟨k - 1, by omega⟩
    simp only [spec_l07Trough.l2]
    rw [if_neg (by omega), List.drop_of_length_le (by omega)]
    simp [tParts]
  | succ d ih =>
    intro k i acc s hi hk hacc hf
    obtain ⟨k, rfl⟩ : ∃ m, k = m + 1 := ⟨k - 1, by omega⟩
    rw [drop_at row i (by omega)] at hf ⊢
    have hs := tFine_head hf
    have ht := tFine_tail hf
    have hs2 := tFine_head ht
    have m1 := mul_in v _ hv hs
    have m2 := mul_in v _ hv hs2
    have d1 := div_in _ _ m1 ha.1
    have d2 := div_in _ _ m2 ha.1
    simp only [spec_l07Trough.l2, tParts]
    rw [w64 (s + rd row i) (by omega) (by omega), w64 (v * (s + rd row i)) (by omega) (by omega), w64 (v * s) (by omega) (by omega), Int.tdiv_eq_ediv_of_nonneg m1.1, Int.tdiv_eq_ediv_of_nonneg m2.1,
      w64 (v * s / all) (by omega) (by omega), w64 (v * (s + rd row i) / all) (by omega) (by omega), w64 (v * (s + rd row i) / all - v * s / all) (by omega) (by omega), w64s i (by omega)]
    rw [if_pos (by omega), if_pos (by omega), if_neg (by omega), if_pos (by omega), ih k (i + 1) _ _ (by omega) (by omega) (by simp; omega) ht]
    simp
def pasT : List Int → List Int
  | x :: y :: t => wrap64 (x + y) :: pasT (y :: t)
  | _ => []
theorem pasT_len : ∀ (l : List Int), (pasT l).length = l.length - 1
  | [] => rfl
  | [_] => rfl
  | x :: y :: t => by simp [pasT, pasT_len (y :: t)]
def pasN : Nat → List Int
  | 0 => [1]
  | n + 1 => [1] ++ pasT (pasN n) ++ [1]
def allN : Nat → Int
  | 0 => 1
  | n + 1 => wrap64 (allN n * 2)
theorem pasN_len (n : Nat) : (pasN n).length = n + 1 := by
  induction n with
  | zero => rfl
  | succ n ih => simp [pasN, pasT_len, ih]
theorem specTr_l1 (v w : Int) (row : List Int) (hb : row.length ≤ 1000) (all n : Int) : ∀ (d k i : Nat) (acc : List Int), i + d = row.length → 1 ≤ i → acc.length ≤ i →
    spec_l07Trough.l1 (k + d + 1) v w row all n acc i = spec_l07Trough.l0 k v w (acc ++ pasT (row.drop (i - 1)) ++ [1]) (wrap64 (all * 2)) (wrap64 (n + 1)) := by
  intro d
  induction d with
  | zero =>
    intro k i acc hi h1 hacc
    simp only [spec_l07Trough.l1]
    have h2 : (pasT (row.drop (i - 1))) = [] := by
      have h3 : (row.drop (i - 1)).length = 1 := by rw [List.length_drop]; omega
      match row.drop (i - 1), h3 with
      | [x], _ => rfl
    rw [if_neg (by omega), if_pos (by omega), h2, List.append_nil]
  | succ d ih =>
    intro k i acc hi h1 hacc
    obtain ⟨j, rfl⟩ : ∃ j, i = j + 1 := ⟨i - 1, by omega⟩
    have e : wrap64 (((j + 1 : Nat) : Int) - 1) = (j : Int) := by rw [w64 _ (by omega) (by omega)]; omega
    obtain ⟨m, hm⟩ : ∃ m, m = k + d + 1 := ⟨_, rfl⟩
    rw [show k + (d + 1) + 1 = m + 1 by omega]
    simp only [spec_l07Trough.l1]
    rw [hm, e, if_pos (by omega), if_pos (by omega), if_pos (by omega), if_pos (by omega), if_pos (by omega), w64s (j + 1) (by omega), ih k (j + 1 + 1) _ (by omega) (by omega) (by simp; omega)]
    have h3 : pasT (row.drop j) = wrap64 (rd row j + rd row (j + 1 : Nat)) :: pasT (row.drop (j + 1)) := by
      rw [drop_at row j (by omega), drop_at row (j + 1) (by omega)]
      rfl
    rw [show j + 1 - 1 = j by omega, show j + 1 + 1 - 1 = j + 1 by omega, h3]
    simp
theorem specTr_l0 (v : Int) (w : Nat) (hw : w ≤ 5) (R : Option (List Int)) (hR : ∀ k, 20 ≤ k → spec_l07Trough.l0 k v w (pasN (2 * w)) (allN (2 * w)) (2 * w : Nat) = R) :
    ∀ (d n k : Nat), n + d = 2 * w → 20 + d * 13 ≤ k → spec_l07Trough.l0 k v w (pasN n) (allN n) n = R := by
  intro d
  induction d with
  | zero =>
    intro n k hn hk
    rw [show n = 2 * w by omega]
    exact hR k (by omega)
  | succ d ih =>
    intro n k hn hk
    have hl := pasN_len n
    obtain ⟨m, rfl⟩ : ∃ m, k = m + n + 1 + 1 := ⟨k - (n + 2), by omega⟩
    simp only [spec_l07Trough.l0]
    have h2w : wrap64 (2 * (w : Int)) = 2 * (w : Int) := w64 _ (by omega) (by omega)
    rw [h2w, if_pos (by omega)]
    have := specTr_l1 v w (pasN n) (by omega) (allN n) n n m 1 [1] (by omega) (by omega) (by simp)
    rw [show ((1 : Nat) : Int) = 1 by rfl, show 1 - 1 = 0 by rfl, List.drop_zero] at this
    rw [this, w64s n (by omega)]
    exact ih (n + 1) m (by omega) (by omega)
theorem pasN_row (w : Nat) (hw : w ≤ 5) : pasN (2 * w) = tRow w ∧ allN (2 * w) = tAll w := by
  have : ∀ w, w < 6 → pasN (2 * w) = tRow w ∧ allN (2 * w) = tAll w := by decide +kernel
  exact this w (by omega)
theorem specTrough_is (k : Nat) (v : Int) (w : Nat) (hv : 0 ≤ v ∧ v ≤ 100000) (hw : w ≤ 5) (hk : 200 ≤ k) : spec_l07Trough.f k v w = some (trough v w) := by
  unfold spec_l07Trough.f
  have hl := tRow_len w hw
  obtain ⟨e1, e2⟩ := pasN_row w hw
  refine specTr_l0 v w hw (some (trough v w)) ?_ (2 * w) 0 k (by omega) (by omega)
  intro k hk
  obtain ⟨k, rfl⟩ : ∃ m, k = m + 1 := ⟨k - 1, by omega⟩
  simp only [spec_l07Trough.l0]
  have h2w : wrap64 (2 * (w : Int)) = 2 * (w : Int) := w64 _ (by omega) (by omega)
  rw [h2w, if_neg (by omega), e1, e2]
  have := specTr_l2 v hv (tAll w) (tAll_pos w) (tRow w) (by omega) (tRow w).length k 0 [] 0 (by omega) (by omega) (by simp) (tRow_fine w)
  simpa [trough] using this

end Go.Proofs.Ytikpjjllccijoaa.P
