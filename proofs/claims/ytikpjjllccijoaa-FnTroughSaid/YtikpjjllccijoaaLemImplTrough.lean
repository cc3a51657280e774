/- The program's trough is the plain one. -/
import Derived.Test.YtikpjjllccijoaaLemCore
import Derived.Test.YtikpjjllccijoaaLemTrough
import Derived.Test.YtikpjjllccijoaaPx10
namespace Go.Proofs.Ytikpjjllccijoaa.P
open Go.RowKit Go.Proofs.Ytikpjjllccijoaa.P Go.Proofs.YtikpjjllccijoaaW.PrintWords Go.Proofs.YtikpjjllccijoaaW.PrintLast Go.Proofs.YtikpjjllccijoaaW.PrintMore
set_option linter.unusedVariables false
set_option linter.unusedSimpArgs false
theorem tRow_step (w : Nat) (hw : w ≤ 5) (j : Nat) (hj : j < 2 * w + 1) : wrap64 (Int.tdiv (wrap64 (rd (tRow w) j * wrap64 (2 * (w : Int) - (j : Int)))) ((j + 1 : Nat) : Int)) = rd (tRow w) ((j + 1 : Nat) : Int) := by
  have : ∀ w, w < 6 → ∀ j, j < 11 → j < 2 * w + 1 → wrap64 (Int.tdiv (wrap64 (rd (tRow w) (j : Nat) * wrap64 (2 * (w : Nat) - (j : Nat)))) ((j + 1 : Nat) : Int)) = rd (tRow w) ((j + 1 : Nat) : Int) := by decide +kernel
  exact this w (by omega) j (by omega) hj
theorem tAll_shr (w : Nat) (hw : w ≤ 5) (x : Int) : shr .i64 x (IntKind.u64.wrap (wrap64 (2 * (w : Int)))) = x / tAll w := by
  have : ∀ w, w < 6 → (2 : Int) ^ min (IntKind.u64.wrap (wrap64 (2 * (w : Nat)))).toNat IntKind.i64.bits = tAll w := by decide +kernel
  unfold shr
  rw [this w (by omega)]
theorem implTr_l0 (v : Int) (hv : 0 ≤ v ∧ v ≤ 100000) (w : Nat) (hw : w ≤ 5) : ∀ (d k j : Nat) (acc : List Int) (s : Int), j + d = 2 * w + 1 → d < k → acc.length ≤ j → tFine s ((tRow w).drop j) = true →
    impl_trough.l0 k v w acc (rd (tRow w) j) s (v * s / tAll w) (2 * (w : Int) + 1) j = some (acc ++ tParts v (tAll w) s ((tRow w).drop j)) := by
  have hl := tRow_len w hw
  have ha := tAll_pos w
  intro d
  induction d with
  | zero =>
    intro k j acc s hj hk hacc hf
    obtain ⟨k, rfl⟩ : ∃ m, k = m + 1 := ⟨k - 1, by omega⟩
    simp only [impl_trough.l0]
    rw [if_neg (by omega), List.drop_of_length_le (by omega)]
    simp [tParts]
  | succ d ih =>
    intro k j acc s hj hk hacc hf
    obtain ⟨k, rfl⟩ : ∃ m, k = m + 1 := ⟨k - 1, by omega⟩
    rw [drop_at (tRow w) j (by omega)] at hf ⊢
    have hs := tFine_head hf
    have ht := tFine_tail hf
    have hs2 := tFine_head ht
    have m1 := mul_in v _ hv hs
    have m2 := mul_in v _ hv hs2
    have d1 := div_in _ _ m1 ha.1
    have d2 := div_in _ _ m2 ha.1
    have hst := tRow_step w hw j (by omega)
    simp only [impl_trough.l0, tParts]
    have hu : 0 ≤ IntKind.u64.wrap (wrap64 (2 * (w : Int))) := by
      have : ∀ w, w < 6 → 0 ≤ IntKind.u64.wrap (wrap64 (2 * (w : Nat))) := by decide +kernel
      exact this w (by omega)
    rw [if_pos (by omega), if_pos hu, if_pos (by omega), tAll_shr w hw, w64s j (by omega), if_neg (by omega), w64 (s + rd (tRow w) j) (by omega) (by omega), w64 (v * (s + rd (tRow w) j)) (by omega) (by omega),
      w64 (v * (s + rd (tRow w) j) / tAll w - v * s / tAll w) (by omega) (by omega)]
    have h2w : wrap64 (2 * (w : Int)) = 2 * (w : Int) := w64 _ (by omega) (by omega)
    rw [h2w, hst, ih k (j + 1) _ _ (by omega) (by omega) (by simp; omega) ht]
    simp
theorem implTrough_is (k : Nat) (v : Int) (w : Nat) (hv : 0 ≤ v ∧ v ≤ 100000) (hw : w ≤ 5) (hk : 200 ≤ k) : impl_trough.f k v w = some (trough v w) := by
  unfold impl_trough.f
  have h2w : wrap64 (2 * (w : Int)) = 2 * (w : Int) := w64 _ (by omega) (by omega)
  rw [h2w, w64 (2 * (w : Int) + 1) (by omega) (by omega)]
  have h1 : rd (tRow w) ((0 : Nat) : Int) = 1 := by
    rcases w with _ | _ | _ | _ | _ | _ | w <;> first | rfl | omega
  have h0 : v * 0 / tAll w = 0 := by simp
  have := implTr_l0 v hv w hw (2 * w + 1) k 0 [] 0 (by omega) (by omega) (by simp) (tRow_fine w)
  rw [h1, h0] at this
  simpa [trough] using this

end Go.Proofs.Ytikpjjllccijoaa.P
