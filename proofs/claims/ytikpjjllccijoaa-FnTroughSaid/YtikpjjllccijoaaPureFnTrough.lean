/- The parts of a trough add up to its volume, none is negative, and opposite parts differ by at most 1; no condition. -/
import Derived.Test.YtikpjjllccijoaaLemB10At
import Derived.Test.YtikpjjllccijoaaLemB10Sum
import Derived.Test.YtikpjjllccijoaaLemCore
import Derived.Test.YtikpjjllccijoaaLemImplTroughOf
import Derived.Test.YtikpjjllccijoaaLemTrough
import Derived.Test.YtikpjjllccijoaaLemTroughMore
import Derived.Test.YtikpjjllccijoaaPx18
import Derived.Test.YtikpjjllccijoaaPx9
namespace Go.Proofs.Ytikpjjllccijoaa.Pure
open Go.RowKit Go.Proofs.Ytikpjjllccijoaa.P Go.Proofs.YtikpjjllccijoaaW.PrintWords Go.Proofs.YtikpjjllccijoaaW.PrintLast Go.Proofs.YtikpjjllccijoaaW.PrintMore
set_option linter.unusedVariables false
set_option linter.unusedSimpArgs false
theorem trough_fine (v : Int) (w : Nat) (hv : 0 ≤ v ∧ v ≤ 100000) (hw : w ≤ 5) : ∀ (d k i : Nat), i + d = 2 * w + 1 → d < k → laws_FnTrough.l0 k (trough v w) i = some true := by
  have hl := trough_len v w hw
  intro d
  induction d with
  | zero =>
    intro k i hi hk
    obtain ⟨k, rfl⟩ : ∃ m, k = m + 1 := ⟨k - 1, by omega⟩
    simp only [laws_FnTrough.l0]
    rw [if_neg (by omega)]
  | succ d ih =>
    intro k i hi hk
    obtain ⟨k, rfl⟩ : ∃ m, k = m + 1 := ⟨k - 1, by omega⟩
    have hp := trough_part v w i hv hw (by omega)
    have hq := trough_part v w (2 * w - i) hv hw (by omega)
    have e : wrap64 (wrap64 (((trough v w).length : Int) - 1) - (i : Int)) = ((2 * w - i : Nat) : Int) := by
      rw [hl, w64 (((2 * w + 1 : Nat) : Int) - 1) (by omega) (by omega), w64 (((2 * w + 1 : Nat) : Int) - 1 - (i : Int)) (by omega) (by omega)]; omega
    simp only [laws_FnTrough.l0, laws_b10Abs.f]
    have es : wrap64 (rd (trough v w) i - rd (trough v w) ((2 * w - i : Nat) : Int)) = rd (trough v w) i - rd (trough v w) ((2 * w - i : Nat) : Int) := w64 _ (by omega) (by omega)
    rw [if_pos (by omega), if_pos (by omega), if_neg (by omega), e, if_pos (by omega), if_pos (by omega), es, w64s i (by omega)]
    by_cases h : rd (trough v w) i - rd (trough v w) ((2 * w - i : Nat) : Int) < 0
    · rw [if_pos h, w64 (-(rd (trough v w) i - rd (trough v w) ((2 * w - i : Nat) : Int))) (by omega) (by omega), bind_some_, if_neg (by omega)]
      exact ih k (i + 1) (by omega) (by omega)
    · rw [if_neg h, bind_some_, if_neg (by omega)]
      exact ih k (i + 1) (by omega) (by omega)
theorem FnTrough : laws_FnTrough.Pure := by
  intro l m _ _ hl _ _ _
  refine ⟨400, ?_⟩
  unfold laws_FnTrough.f laws_b10Long.f
  by_cases h1 : (l.length : Int) > 1048576
  · rw [if_pos h1, bind_some_, if_pos rfl]
  · rw [if_neg h1, bind_some_]
    by_cases h2 : (m.length : Int) > 1048576
    · rw [if_pos (by simpa using h2)]
    · rw [if_neg (by simpa using h2)]
      obtain ⟨a, ha, a1, a2⟩ := b10At_in l hl 0 256 (by omega) (by omega)
      obtain ⟨b, hb, b1, b2⟩ := b10At_in l hl 1 256 (by omega) (by omega)
      obtain ⟨c, hc, c1, c2⟩ := b10At_in l hl 2 6 (by omega) (by omega)
      obtain ⟨w, rfl⟩ : ∃ w : Nat, c = w := ⟨c.toNat, by omega⟩
      rw [ha, bind_some_, hb, bind_some_, hc, bind_some_, w64 (256 * a) (by omega) (by omega), w64 (256 * a + b) (by omega) (by omega)]
      have hv : 0 ≤ 256 * a + b ∧ 256 * a + b ≤ 100000 := by omega
      generalize 256 * a + b = v at hv
      have hw : w ≤ 5 := by omega
      have hln := trough_len v w hw
      have et : trOfI v w = (trough v w, true) := by
        unfold trOfI
        rw [if_pos ⟨hv, by omega⟩, Int.toNat_natCast]
      rw [implTroughOf_is _ v w (by omega), et, bind_some_, if_pos rfl, w64 (2 * (w : Int)) (by omega) (by omega), w64 (2 * (w : Int) + 1) (by omega) (by omega), if_pos (by simp only [hln]; omega), b10Sum_is _ _ (by simp only [hln]; omega) (by simp only [hln]; omega), bind_some_, trough_sum v w hv hw, bne_self_eq_false]
      simp only [laws_FnTrough.j0]
      rw [if_neg (by simp)]
      exact trough_fine v w hv hw (2 * w + 1) _ 0 (by omega) (by omega)

end Go.Proofs.Ytikpjjllccijoaa.Pure
