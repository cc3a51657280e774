/- The stretches of a settled list, plainly. -/
import Derived.Test.YtajndapolblhmaaPx0
namespace Go.Proofs.Ytajndapolblhmaa.P
open Go.RowKit Go.Proofs.Ytajndapolblhmaa.P Go.Proofs.YtajndapolblhmaaW.PrintWords Go.Proofs.YtajndapolblhmaaW.PrintLast Go.Proofs.YtajndapolblhmaaW.PrintMore
set_option linter.unusedVariables false
set_option linter.unusedSimpArgs false
def strGo (l : List Int) (w : Int) : Nat → Nat → List (List Int) → List (List Int)
  | 0, _, acc => acc
  | d + 1, i, acc => if rd l (i : Int) < w then strGo l w d (i + 1) acc else
      if 0 < i ∧ rd l ((i - 1 : Nat) : Int) ≥ w then strGo l w d (i + 1) (acc.set (acc.length - 1) ((rd_L1 acc ((acc.length - 1 : Nat) : Int)).set 1 (i : Int))) else strGo l w d (i + 1) (acc ++ [[(i : Int), (i : Int)]])
def strRow (r : Nat × Nat) : List Int := [(r.1 : Int), (r.2 : Int)]
def strInv (l : List Int) (w : Int) (rs : List (Nat × Nat)) (i : Nat) : Prop :=
  (∀ r ∈ rs, r.1 ≤ r.2 ∧ r.2 < i) ∧ (∀ x : Nat, x < i → ((∃ r ∈ rs, r.1 ≤ x ∧ x ≤ r.2) ↔ rd l (x : Int) ≥ w)) ∧ (∀ m : Nat, i = m + 1 → rd l (m : Int) ≥ w → ∃ rs0 a, rs = rs0 ++ [(a, m)])
theorem strInv_nil (l : List Int) (w : Int) : strInv l w [] 0 := ⟨fun r h => by simp at h, fun x h => by omega, fun m h => by omega⟩
theorem strInv_low {l : List Int} {w : Int} {rs : List (Nat × Nat)} {i : Nat} (h : strInv l w rs i) (h1 : rd l (i : Int) < w) : strInv l w rs (i + 1) := by
  obtain ⟨a, b, c⟩ := h
  refine ⟨fun r hr => by have := a r hr; omega, ?_, ?_⟩
  · intro x hx
    by_cases e : x = i
    · subst e
      constructor
      · rintro ⟨r, hr, h2, h3⟩
        have := a r hr
        omega
      · intro h2
        omega
    · exact b x (by omega)
  · intro m hm hw
    have : m = i := by omega
    subst this
    omega
theorem strInv_new {l : List Int} {w : Int} {rs : List (Nat × Nat)} {i : Nat} (h : strInv l w rs i) (h1 : rd l (i : Int) ≥ w) : strInv l w (rs ++ [(i, i)]) (i + 1) := by
  obtain ⟨a, b, c⟩ := h
  refine ⟨?_, ?_, ?_⟩
  · intro r hr
    rcases List.mem_append.mp hr with h2 | h2
    · have := a r h2; omega
    · rw [List.mem_singleton] at h2
      subst h2
      dsimp only
      omega
  · intro x hx
    by_cases e : x = i
    · subst e
      exact ⟨fun _ => h1, fun _ => ⟨(x, x), by simp, Nat.le_refl _, Nat.le_refl _⟩⟩
    · rw [← b x (by omega)]
      constructor
      · rintro ⟨r, hr, h2, h3⟩
        rcases List.mem_append.mp hr with h4 | h4
        · exact ⟨r, h4, h2, h3⟩
        · rw [List.mem_singleton] at h4
          subst h4
          dsimp only at h2 h3
          omega
      · rintro ⟨r, hr, h2, h3⟩
        exact ⟨r, List.mem_append_left _ hr, h2, h3⟩
  · intro m hm hw
    have : m = i := by omega
    subst this
    exact ⟨rs, m, rfl⟩
theorem strInv_grow {l : List Int} {w : Int} {rs : List (Nat × Nat)} {a m : Nat} (h : strInv l w (rs ++ [(a, m)]) (m + 1)) (h1 : rd l ((m + 1 : Nat) : Int) ≥ w) : strInv l w (rs ++ [(a, m + 1)]) (m + 1 + 1) := by
  obtain ⟨q, b, c⟩ := h
  have hq := q (a, m) (by simp)
  dsimp only at hq
  refine ⟨?_, ?_, ?_⟩
  · intro r hr
    rcases List.mem_append.mp hr with h2 | h2
    · have := q r (List.mem_append_left _ h2); omega
    · rw [List.mem_singleton] at h2
      subst h2
      dsimp only
      omega
  · intro x hx
    by_cases e : x = m + 1
    · subst e
      exact ⟨fun _ => h1, fun _ => ⟨(a, m + 1), by simp, by dsimp only; omega, Nat.le_refl _⟩⟩
    · rw [← b x (by omega)]
      constructor
      · rintro ⟨r, hr, h2, h3⟩
        rcases List.mem_append.mp hr with h4 | h4
        · exact ⟨r, List.mem_append_left _ h4, h2, h3⟩
        · rw [List.mem_singleton] at h4
          subst h4
          dsimp only at h2 h3
          exact ⟨(a, m), by simp, h2, by dsimp only; omega⟩
      · rintro ⟨r, hr, h2, h3⟩
        rcases List.mem_append.mp hr with h4 | h4
        · exact ⟨r, List.mem_append_left _ h4, h2, h3⟩
        · rw [List.mem_singleton] at h4
          subst h4
          dsimp only at h2 h3
          exact ⟨(a, m + 1), by simp, h2, by dsimp only; omega⟩
  · intro k hk hw
    have : k = m + 1 := by omega
    subst this
    exact ⟨rs, a, rfl⟩
theorem rdL_at (l : List (List Int)) (i : Nat) (h : i < l.length) : rd_L1 l (i : Int) = l[i] := by
  unfold rd_L1
  rw [Int.toNat_natCast, List.getD_eq_getElem?_getD, List.getElem?_eq_getElem h]
  rfl
theorem strGo_ok (l : List Int) (w : Int) : ∀ (d i : Nat) (rs : List (Nat × Nat)), strInv l w rs i → ∃ rs2, strGo l w d i (rs.map strRow) = rs2.map strRow ∧ strInv l w rs2 (i + d) ∧ rs2.length ≤ rs.length + d
  | 0, i, rs, h => ⟨rs, rfl, h, Nat.le_refl _⟩
  | d + 1, i, rs, h => by
    rw [show i + (d + 1) = (i + 1) + d by omega]
    simp only [strGo]
    by_cases h1 : rd l (i : Int) < w
    · rw [if_pos h1]
      obtain ⟨rs2, q1, q2, q3⟩ := strGo_ok l w d (i + 1) rs (strInv_low h h1)
      exact ⟨rs2, q1, q2, by omega⟩
    · rw [if_neg h1]
      by_cases h2 : 0 < i ∧ rd l ((i - 1 : Nat) : Int) ≥ w
      · rw [if_pos h2]
        obtain ⟨m, rfl⟩ : ∃ m, i = m + 1 := ⟨i - 1, by omega⟩
        obtain ⟨rs0, a, rfl⟩ := h.2.2 m rfl h2.2
        have e : ((rs0 ++ [(a, m)]).map strRow).set (((rs0 ++ [(a, m)]).map strRow).length - 1) ((rd_L1 ((rs0 ++ [(a, m)]).map strRow) ((((rs0 ++ [(a, m)]).map strRow).length - 1 : Nat) : Int)).set 1 ((m + 1 : Nat) : Int)) = (rs0 ++ [(a, m + 1)]).map strRow := by
          rw [rdL_at _ _ (by simp)]
          simp [strRow]
        rw [e]
        obtain ⟨rs2, q1, q2, q3⟩ := strGo_ok l w d (m + 1 + 1) _ (strInv_grow h (by omega))
        exact ⟨rs2, q1, q2, by simp only [List.length_append, List.length_singleton] at q3 ⊢; omega⟩
      · rw [if_neg h2]
        have e : rs.map strRow ++ [[(i : Int), (i : Int)]] = (rs ++ [(i, i)]).map strRow := by simp [strRow]
        rw [e]
        obtain ⟨rs2, q1, q2, q3⟩ := strGo_ok l w d (i + 1) _ (strInv_new h (by omega))
        exact ⟨rs2, q1, q2, by simp only [List.length_append, List.length_singleton] at q3 ⊢; omega⟩

end Go.Proofs.Ytajndapolblhmaa.P
