/- A point is in a stretch exactly if it has settled by at least the least number, which is so exactly if its level is at least to be watched; and no two neighbouring points differ by more than the steepest ones; no condition. -/
import Derived.Test.YtajndapolblhmabCFnWatched1
import Derived.Test.YtajndapolblhmabCFnWatched0
namespace Go.Proofs.Ytajndapolblhmab.Pure
open Go.RowKit Go.Proofs.Ytajndapolblhmab.P Go.Proofs.YtajndapolblhmabW.PrintWords Go.Proofs.YtajndapolblhmabW.PrintLast Go.Proofs.YtajndapolblhmabW.PrintMore
set_option linter.unusedVariables false
set_option linter.unusedSimpArgs false
theorem at_in (m : List Int) (hm : ∀ x ∈ m, (Lit.int .u8 x).wf = true) (i : Nat) (hi : i ≤ 100) : ∃ r, laws_b10At.f m i 200 = some r ∧ 0 ≤ r ∧ r < 200 := by
  unfold laws_b10At.f
  rw [if_neg (by omega)]
  by_cases h : (i : Int) < (m.length : Int)
  · have hr := wfu8 (hm _ (List.getElem_mem (show i < m.length by omega)))
    rw [if_pos h, if_pos (by omega), if_neg (by omega), rd_at m i (by omega), w64 _ (by omega) (by omega)]
    exact ⟨_, rfl, Int.tmod_nonneg _ hr.1, Int.tmod_lt_of_pos _ (by omega)⟩
  · rw [if_neg h, if_neg (by omega), w64 ((i : Int) * 37) (by omega) (by omega), w64 _ (by omega) (by omega)]
    exact ⟨_, rfl, Int.tmod_nonneg _ (by omega), Int.tmod_lt_of_pos _ (by omega)⟩
def absD (S : List Int) (i : Nat) : Int := absW (wrap64 (rd S (i : Int) - rd S ((i + 1 : Nat) : Int)))
theorem absD_is (S : List Int) (hS : stOk S = true) (i : Nat) (hi : i < 23) : laws_b10Abs.f (wrap64 (rd S (i : Int) - rd S ((i + 1 : Nat) : Int))) = some (absD S i) ∧ 0 ≤ absD S i := by
  have h24 := stOk_len hS
  have h1 := stOk_in hS i (by omega)
  have h2 := stOk_in hS (i + 1) (by omega)
  unfold laws_b10Abs.f absD absW
  rw [w64 (rd S (i : Int) - rd S ((i + 1 : Nat) : Int)) (by omega) (by omega), w64 (-(rd S (i : Int) - rd S ((i + 1 : Nat) : Int))) (by omega) (by omega)]
  by_cases h : rd S (i : Int) - rd S ((i + 1 : Nat) : Int) < 0
  · rw [if_pos h, if_pos (by omega)]
    exact ⟨rfl, by omega⟩
  · rw [if_neg h]
    by_cases h3 : rd S (i : Int) - rd S ((i + 1 : Nat) : Int) < -(rd S (i : Int) - rd S ((i + 1 : Nat) : Int))
    · omega
    · rw [if_neg h3]
      exact ⟨rfl, by omega⟩
theorem steep_ok (S : List Int) (hS : stOk S = true) : ∀ (d i : Nat) (at_ best : Int), i + d = 23 → (∀ x : Nat, x < i → absD S x ≤ best) → ((i = 0 ∧ best = -1) ∨ ∃ a : Nat, at_ = a ∧ a < i ∧ absD S a = best) → (∀ x : Nat, x < 23 → absD S x ≤ (steepFrom S d i at_ best).2.1) ∧ (∃ a : Nat, (steepFrom S d i at_ best).1 = a ∧ a < 23 ∧ absD S a = (steepFrom S d i at_ best).2.1) ∧ (steepFrom S d i at_ best).2.2 = true
  | 0, i, at_, best, hi, h1, h2 => by
    simp only [steepFrom]
    refine ⟨fun x hx => h1 x (by omega), ?_, trivial⟩
    rcases h2 with ⟨h3, _⟩ | ⟨a, h3, h4, h5⟩
    · omega
    · exact ⟨a, h3, by omega, h5⟩
  | d + 1, i, at_, best, hi, h1, h2 => by
    have h0 := (absD_is S hS i (by omega)).2
    simp only [steepFrom]
    by_cases h3 : absD S i > best
    · rw [if_pos (show absW (wrap64 (rd S (i : Int) - rd S ((i + 1 : Nat) : Int))) > best from h3)]
      refine steep_ok S hS d (i + 1) i (absD S i) (by omega) ?_ (.inr ⟨i, rfl, by omega, rfl⟩)
      intro x hx
      by_cases e : x = i
      · rw [e]; exact Int.le_refl _
      · have := h1 x (by omega); omega
    · rw [if_neg (show ¬ absW (wrap64 (rd S (i : Int) - rd S ((i + 1 : Nat) : Int))) > best from h3)]
      refine steep_ok S hS d (i + 1) at_ best (by omega) ?_ ?_
      · intro x hx
        by_cases e : x = i
        · rw [e]; omega
        · exact h1 x (by omega)
      · rcases h2 with ⟨_, h4⟩ | ⟨a, h4, h5, h6⟩
        · omega
        · exact .inr ⟨a, h4, by omega, h6⟩
theorem watched_l1 (S : List Int) (hS : stOk S = true) (w s : Int) (hws : w ≤ s) (rs : List (Nat × Nat)) (hl : rs.length ≤ 1000000) (x12 x13 : Int) (i : Nat) (hi : i < 24) (h13 : ∀ x : Nat, x < 23 → absD S x ≤ x13) (B : Nat)
    (hcont : ∀ k : Nat, B ≤ k → laws_FnWatched.l0 k S w (S.map (levelAt w s)) (rs.map strRow) x12 x13 ((i + 1 : Nat) : Int) = some true) :
    ∀ (d k j : Nat) (b : Bool), j + d = rs.length → B + d + 1 < k → (b || (rs.drop j).any (fun r => decide (r.1 ≤ i) && decide (i ≤ r.2))) = decide (rd S (i : Int) ≥ w) → laws_FnWatched.l1 k S w (S.map (levelAt w s)) (rs.map strRow) x12 x13 i b j = some true := by
  have h24 := stOk_len hS
  intro d
  induction d with
  | zero =>
    intro k j b hj hk hb
    obtain ⟨k, rfl⟩ : ∃ m, k = m + 1 + 1 := ⟨k - 2, by omega⟩
    rw [List.drop_of_length_le (by omega)] at hb
    simp only [List.any_nil, Bool.or_false] at hb
    have hlv : rd (S.map (levelAt w s)) (i : Int) = levelAt w s (rd S (i : Int)) := by
      rw [rd_at _ i (by rw [List.length_map]; omega), List.getElem_map, rd_at S i (by omega)]
    have hlv2 : (b != (rd (S.map (levelAt w s)) (i : Int) != 0)) = false := by
      rw [hlv, hb]
      unfold levelAt
      by_cases h1 : rd S (i : Int) ≥ s
      · rw [if_pos h1, decide_eq_true (show rd S (i : Int) ≥ w by omega)]; rfl
      · rw [if_neg h1]
        by_cases h2 : rd S (i : Int) ≥ w
        · rw [if_pos h2, decide_eq_true h2]; rfl
        · rw [if_neg h2, decide_eq_false h2]; rfl
    simp only [laws_FnWatched.l1]
    rw [if_neg (by rw [List.length_map]; omega), if_pos (by omega), if_pos (by omega), hlv2]
    rw [if_neg (by rw [hb]; simp), if_pos (by rw [List.length_map]; omega)]
    simp only [laws_FnWatched.j3]
    rw [if_neg (by simp), w64s i (by omega)]
    by_cases h1 : ((i + 1 : Nat) : Int) < 24
    · have h2 := absD_is S hS i (by omega)
      have h3 := h13 i (by omega)
      rw [if_pos h1, if_pos (by omega), if_pos (by omega), if_pos (by omega), if_pos (by omega), h2.1, bind_some_, if_neg (by omega)]
      exact hcont k (by omega)
    · rw [if_neg h1]
      exact hcont k (by omega)
  | succ d ih =>
    intro k j b hj hk hb
    obtain ⟨k, rfl⟩ : ∃ m, k = m + 1 := ⟨k - 1, by omega⟩
    have hlt : j < rs.length := by omega
    have hr : rd_L3 (rs.map strRow) (j : Int) = strRow rs[j] := by
      rw [rdL_at _ j (by rw [List.length_map]; exact hlt), List.getElem_map]
    have hlen : ((strRow rs[j]).length : Int) = 2 := rfl
    have e0 : rd (strRow rs[j]) 0 = (rs[j].1 : Int) := rfl
    have e1 : rd (strRow rs[j]) 1 = (rs[j].2 : Int) := rfl
    rw [List.drop_eq_getElem_cons hlt] at hb
    simp only [List.any_cons] at hb
    simp only [laws_FnWatched.l1]
    rw [if_pos (by rw [List.length_map]; omega), if_pos (by omega), hr, if_pos hlen, w64s j (by omega)]
    cases b with
    | true =>
      rw [if_pos rfl]
      refine ih k (j + 1) true (by omega) (by omega) ?_
      simpa using hb
    | false =>
      rw [if_neg (by simp), hlen, if_pos (by omega), e0, e1]
      by_cases h1 : ((rs[j].1 : Nat) : Int) ≤ (i : Int)
      · rw [if_pos h1, if_pos (by omega)]
        refine ih k (j + 1) _ (by omega) (by omega) ?_
        rw [← hb, decide_eq_true (show rs[j].1 ≤ i by omega)]
        have : decide ((i : Int) ≤ ((rs[j].2 : Nat) : Int)) = decide (i ≤ rs[j].2) := by
          by_cases q : i ≤ rs[j].2
          · rw [decide_eq_true q, decide_eq_true (by omega)]
          · rw [decide_eq_false q, decide_eq_false (by omega)]
        rw [this]
        simp
      · rw [if_neg h1]
        refine ih k (j + 1) false (by omega) (by omega) ?_
        rw [← hb, decide_eq_false (show ¬ rs[j].1 ≤ i by omega)]
        simp
theorem watched_l0 (S : List Int) (hS : stOk S = true) (w s : Int) (hws : w ≤ s) (rs : List (Nat × Nat)) (hrs : strInv S w rs 24) (hl : rs.length ≤ 1000000) (x12 x13 : Int) (h13 : ∀ x : Nat, x < 23 → absD S x ≤ x13) (h12 : ∃ a : Nat, x12 = a ∧ a < 23 ∧ absD S a = x13) :
    ∀ (d k i : Nat), i + d = 24 → d * (rs.length + 4) + 2 < k → laws_FnWatched.l0 k S w (S.map (levelAt w s)) (rs.map strRow) x12 x13 i = some true := by
  have h24 := stOk_len hS
  intro d
  induction d with
  | zero =>
    intro k i hi hk
    obtain ⟨k, rfl⟩ : ∃ m, k = m + 1 := ⟨k - 1, by omega⟩
    obtain ⟨a, rfl, ha, hq⟩ := h12
    have h2 := absD_is S hS a ha
    simp only [laws_FnWatched.l0]
    rw [if_neg (by omega), if_pos (by omega), if_pos (by omega), w64s a (by omega), if_pos (by omega), if_pos (by omega), h2.1, bind_some_, hq]
    simp
  | succ d ih =>
    intro k i hi hk
    obtain ⟨k, rfl⟩ : ∃ m, k = m + 1 := ⟨k - 1, by omega⟩
    have e : (d + 1) * (rs.length + 4) = d * (rs.length + 4) + rs.length + 4 := by rw [Nat.succ_mul]; omega
    simp only [laws_FnWatched.l0]
    rw [if_pos (by omega)]
    refine watched_l1 S hS w s hws rs hl x12 x13 i (by omega) h13 (d * (rs.length + 4) + 3) (fun k2 hk2 => ih k2 (i + 1) (by omega) (by omega)) rs.length k 0 false (by omega) (by omega) ?_
    rw [List.drop_zero, Bool.false_or, Bool.eq_iff_iff, decide_eq_true_eq, ← hrs.2.1 i (by omega), List.any_eq_true]
    simp only [Bool.and_eq_true, decide_eq_true_eq]
theorem FnWatched : laws_FnWatched.Pure := by
  intro l m _ _ hl _ _ hm
  obtain ⟨ls, q1, hv⟩ := drawLosses_is l hl 3001 (by omega)
  have hS := settleP_ok ls hv
  have h12 := lsValid_len hv
  have h24 := stOk_len hS
  obtain ⟨a, q2, a0, a1⟩ := at_in m hm 0 (by omega)
  obtain ⟨b, q3, b0, b1⟩ := at_in m hm 1 (by omega)
  obtain ⟨rs, q4, hrs, hrl⟩ := implStr_is (settleP ls) (1 + 5 * a) hS (by omega)
  obtain ⟨g1, g2, g3⟩ := steep_ok (settleP ls) hS 23 0 0 (-1) (by omega) (fun x hx => by omega) (.inl ⟨rfl, rfl⟩)
  have e1 : lvOf (settleP ls) (1 + 5 * a) (1 + 5 * a + b) = ((settleP ls).map (levelAt (1 + 5 * a) (1 + 5 * a + b)), true) := by
    unfold lvOf
    rw [if_pos ⟨hS, by omega, by omega⟩]
  have e2 : steepOf (settleP ls) = steepFrom (settleP ls) 23 0 0 (-1) := by
    unfold steepOf
    rw [if_pos hS]
  refine ⟨3001, ?_⟩
  unfold laws_FnWatched.f laws_b10Long.f
  by_cases h1 : (l.length : Int) > 1048576
  · rw [if_pos h1, bind_some_, if_pos rfl]
  · rw [if_neg h1, bind_some_]
    by_cases h2 : (m.length : Int) > 1048576
    · rw [if_pos (by simpa using h2)]
    · rw [show ((0 : Nat) : Int) = 0 from rfl] at q2
      rw [show ((1 : Nat) : Int) = 1 from rfl] at q3
      rw [if_neg (by simpa using h2), q1, bind_some_, implSettle_is _ ls (by omega) (by omega), bind_some_, if_pos hv]
      dsimp only
      rw [q2, bind_some_, q3, bind_some_, w64 (5 * a) (by omega) (by omega), w64 (1 + 5 * a) (by omega) (by omega), w64 (1 + 5 * a + b) (by omega) (by omega), implLv_is _ _ _ _ (by omega), bind_some_, e1, q4 _ (by omega), bind_some_, implSteep_is _ _ (by omega), bind_some_, e2]
      dsimp only
      obtain ⟨x, hx1, hx2, hx3⟩ := g2
      rw [if_pos rfl, if_pos rfl, if_pos rfl, if_pos g3, if_pos (by omega), if_pos (by rw [List.length_map]; omega), hx1, if_neg (by omega), w64s x (by omega), decide_eq_false (by omega)]
      simp only [laws_FnWatched.j0]
      rw [if_neg (by simp), ← hx1]
      exact watched_l0 (settleP ls) hS _ _ (by omega) rs hrs (by omega) _ _ g1 ⟨x, hx1, hx2, hx3⟩ 24 3000 0 (by omega) (by omega)

end Go.Proofs.Ytajndapolblhmab.Pure
