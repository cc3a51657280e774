/- The parts of a trough add up to its volume, none is negative, and opposite parts differ by at most 1. -/
import Derived.Test.YtikpjjllccijoaaLemCore
import Derived.Test.YtikpjjllccijoaaLemTrough
import Derived.Test.YtikpjjllccijoaaPx0
namespace Go.Proofs.Ytikpjjllccijoaa.P
open Go.RowKit Go.Proofs.Ytikpjjllccijoaa.P Go.Proofs.YtikpjjllccijoaaW.PrintWords Go.Proofs.YtikpjjllccijoaaW.PrintLast Go.Proofs.YtikpjjllccijoaaW.PrintMore
set_option linter.unusedVariables false
set_option linter.unusedSimpArgs false
def tPre : List Int → Nat → Int
  | _, 0 => 0
  | [], _ => 0
  | x :: xs, n + 1 => x + tPre xs n
theorem tParts_rd (v all : Int) : ∀ (l : List Int) (s : Int) (i : Nat), i < l.length → rd (tParts v all s l) i = v * (s + tPre l (i + 1)) / all - v * (s + tPre l i) / all
  | [], _, i, h => by simp at h
  | x :: xs, s, 0, _ => by
    show (v * (s + x) / all - v * s / all) = _
    simp [tPre]
  | x :: xs, s, i + 1, h => by
    have h2 : i < xs.length := by simpa using h
    have ih := tParts_rd v all xs (s + x) i h2
    have e : rd (tParts v all s (x :: xs)) ((i + 1 : Nat) : Int) = rd (tParts v all (s + x) xs) (i : Int) := by
      rw [rd_at _ (i + 1) (by rw [tParts_len]; exact h), rd_at _ i (by rw [tParts_len]; exact h2)]
      rfl
    rw [e, ih]
    simp only [tPre, Int.add_assoc]
theorem trough_rd (v : Int) (w i : Nat) (hw : w ≤ 5) (hi : i < 2 * w + 1) : rd (trough v w) i = v * tPre (tRow w) (i + 1) / tAll w - v * tPre (tRow w) i / tAll w := by
  have := tParts_rd v (tAll w) (tRow w) 0 i (by rw [tRow_len w hw]; exact hi)
  simpa [trough] using this
theorem tPre_facts (w i : Nat) (hw : w ≤ 5) (hi : i < 2 * w + 2) : (0 ≤ tPre (tRow w) i ∧ tPre (tRow w) i ≤ 1024) ∧ tPre (tRow w) i ≤ tPre (tRow w) (i + 1) ∧ tPre (tRow w) (2 * w + 1 - i) = tAll w - tPre (tRow w) i := by
  have : ∀ w, w < 6 → ∀ i, i < 12 → i < 2 * w + 2 → (0 ≤ tPre (tRow w) i ∧ tPre (tRow w) i ≤ 1024) ∧ tPre (tRow w) i ≤ tPre (tRow w) (i + 1) ∧ tPre (tRow w) (2 * w + 1 - i) = tAll w - tPre (tRow w) i := by decide +kernel
  exact this w (by omega) i (by omega) hi
theorem div_sym (w : Nat) (hw : w ≤ 5) (v X Y : Int) (h : X ≤ Y) : 0 ≤ Y / tAll w - X / tAll w ∧ -1 ≤ (Y / tAll w - X / tAll w) - ((v * tAll w - X) / tAll w - (v * tAll w - Y) / tAll w) ∧ (Y / tAll w - X / tAll w) - ((v * tAll w - X) / tAll w - (v * tAll w - Y) / tAll w) ≤ 1 := by
  rcases w with _ | _ | _ | _ | _ | _ | w
  · simp only [tAll]; omega
  · simp only [tAll]; omega
  · simp only [tAll]; omega
  · simp only [tAll]; omega
  · simp only [tAll]; omega
  · simp only [tAll]; omega
  · omega
theorem trough_part (v : Int) (w i : Nat) (hv : 0 ≤ v ∧ v ≤ 100000) (hw : w ≤ 5) (hi : i < 2 * w + 1) :
    (0 ≤ rd (trough v w) i ∧ rd (trough v w) i ≤ 102400000) ∧ -1 ≤ rd (trough v w) i - rd (trough v w) ((2 * w - i : Nat) : Int) ∧ rd (trough v w) i - rd (trough v w) ((2 * w - i : Nat) : Int) ≤ 1 := by
  have f1 := tPre_facts w i hw (by omega)
  have f2 := tPre_facts w (i + 1) hw (by omega)
  have ha := tAll_pos w
  have m1 := mul_in v _ hv f1.1
  have m2 := mul_in v _ hv f2.1
  have d1 := div_in _ _ m1 ha.1
  have d2 := div_in _ _ m2 ha.1
  have hXY : v * tPre (tRow w) i ≤ v * tPre (tRow w) (i + 1) := Int.mul_le_mul_of_nonneg_left f1.2.1 hv.1
  have hs := div_sym w hw v _ _ hXY
  rw [trough_rd v w i hw hi, trough_rd v w (2 * w - i) hw (by omega)]
  have e1 : 2 * w - i + 1 = 2 * w + 1 - i := by omega
  have e2 : 2 * w - i = 2 * w + 1 - (i + 1) := by omega
  rw [e1, f1.2.2, e2, f2.2.2, Int.mul_sub, Int.mul_sub]
  omega
theorem sumT (v all : Int) (hv : 0 ≤ v ∧ v ≤ 100000) (ha : 1 ≤ all ∧ all ≤ 1024) : ∀ (l : List Int) (s : Int), tFine s l = true → (tParts v all s l).foldl (fun a x => wrap64 (a + x)) (v * s / all) = v * (s + tPre l l.length) / all
  | [], s, _ => by simp [tParts, tPre]
  | x :: xs, s, h => by
    have ht := tFine_tail h
    have hs2 := tFine_head ht
    have m2 := mul_in v _ hv hs2
    have d2 := div_in _ _ m2 ha.1
    simp only [tParts, List.foldl_cons, List.length_cons, tPre]
    rw [show v * s / all + (v * (s + x) / all - v * s / all) = v * (s + x) / all by omega, w64 _ (by omega) (by omega), sumT v all hv ha xs (s + x) ht, Int.add_assoc]
theorem trough_sum (v : Int) (w : Nat) (hv : 0 ≤ v ∧ v ≤ 100000) (hw : w ≤ 5) : (trough v w).foldl (fun a x => wrap64 (a + x)) 0 = v := by
  have ha := tAll_pos w
  have := sumT v (tAll w) hv ha (tRow w) 0 (tRow_fine w)
  have e0 : v * 0 / tAll w = 0 := by simp
  have e1 : tPre (tRow w) (tRow w).length = tAll w := by
    have : ∀ w, w < 6 → tPre (tRow w) (tRow w).length = tAll w := by decide +kernel
    exact this w (by omega)
  rw [e0, e1] at this
  rw [trough, this, Int.zero_add, Int.mul_ediv_cancel _ (by omega)]

end Go.Proofs.Ytikpjjllccijoaa.P
