/- The parts of a trough, plainly: what the sums of a binomial row take of a volume. -/
import Derived.Test.YtikpjjllccijoaaPx0
namespace Go.Proofs.Ytikpjjllccijoaa.P
open Go.RowKit Go.Proofs.Ytikpjjllccijoaa.P Go.Proofs.YtikpjjllccijoaaW.PrintWords Go.Proofs.YtikpjjllccijoaaW.PrintLast Go.Proofs.YtikpjjllccijoaaW.PrintMore
set_option linter.unusedVariables false
set_option linter.unusedSimpArgs false
def tRow : Nat → List Int
  | 0 => [1]
  | 1 => [1, 2, 1]
  | 2 => [1, 4, 6, 4, 1]
  | 3 => [1, 6, 15, 20, 15, 6, 1]
  | 4 => [1, 8, 28, 56, 70, 56, 28, 8, 1]
  | 5 => [1, 10, 45, 120, 210, 252, 210, 120, 45, 10, 1]
  | _ => []
def tAll : Nat → Int
  | 0 => 1
  | 1 => 4
  | 2 => 16
  | 3 => 64
  | 4 => 256
  | 5 => 1024
  | _ => 1
def tParts (v all : Int) : Int → List Int → List Int
  | _, [] => []
  | s, x :: xs => (v * (s + x) / all - v * s / all) :: tParts v all (s + x) xs
def trough (v : Int) (w : Nat) : List Int := tParts v (tAll w) 0 (tRow w)
def tSum (s : Int) (l : List Int) : Int := l.foldl (· + ·) s
theorem tRow_len (w : Nat) (h : w ≤ 5) : (tRow w).length = 2 * w + 1 := by
  rcases w with _ | _ | _ | _ | _ | _ | w <;> first | rfl | omega
theorem tParts_len (v all : Int) : ∀ (l : List Int) (s : Int), (tParts v all s l).length = l.length
  | [], _ => rfl
  | x :: xs, s => by simp [tParts, tParts_len v all xs]
theorem trough_len (v : Int) (w : Nat) (h : w ≤ 5) : (trough v w).length = 2 * w + 1 := by
  rw [trough, tParts_len, tRow_len w h]
/-- A row whose numbers are none negative, and whose sum, begun with s, is at most 1024. -/
def tFine (s : Int) : List Int → Bool
  | [] => decide (0 ≤ s ∧ s ≤ 1024)
  | x :: xs => decide (0 ≤ s ∧ s ≤ 1024) && decide (0 ≤ x) && tFine (s + x) xs
theorem tFine_head {s : Int} {l : List Int} (h : tFine s l = true) : 0 ≤ s ∧ s ≤ 1024 := by
  cases l with
  | nil => simpa [tFine] using h
  | cons x xs => simp only [tFine, Bool.and_eq_true, decide_eq_true_eq] at h; exact h.1.1
theorem tFine_tail {s x : Int} {l : List Int} (h : tFine s (x :: l) = true) : tFine (s + x) l = true := by
  simp only [tFine, Bool.and_eq_true, decide_eq_true_eq] at h; exact h.2
theorem tRow_fine (w : Nat) : tFine 0 (tRow w) = true := by
  rcases w with _ | _ | _ | _ | _ | _ | w <;> first | decide | rfl
theorem tAll_pos (w : Nat) : 1 ≤ tAll w ∧ tAll w ≤ 1024 := by
  rcases w with _ | _ | _ | _ | _ | _ | w <;> simp [tAll]
theorem mul_in (v c : Int) (hv : 0 ≤ v ∧ v ≤ 100000) (hc : 0 ≤ c ∧ c ≤ 1024) : 0 ≤ v * c ∧ v * c ≤ 102400000 := by
  constructor
  · exact Int.mul_nonneg hv.1 hc.1
  · calc v * c ≤ 100000 * c := Int.mul_le_mul_of_nonneg_right hv.2 hc.1
      _ ≤ 100000 * 1024 := by omega
      _ = 102400000 := by decide
theorem div_in (x a : Int) (hx : 0 ≤ x ∧ x ≤ 102400000) (ha : 1 ≤ a) : 0 ≤ x / a ∧ x / a ≤ 102400000 := by
  constructor
  · exact Int.ediv_nonneg hx.1 (by omega)
  · exact Int.le_trans (Int.ediv_le_self _ hx.1) hx.2

end Go.Proofs.Ytikpjjllccijoaa.P
