/- The reference's table is right, row by row, from the back. -/
import Derived.Test.YtegjebiocgbmpaaLemCore
import Derived.Test.YtegjebiocgbmpaaLemFewest
import Derived.Test.YtegjebiocgbmpaaPx0
import Derived.Test.YtegjebiocgbmpaaPx1
import Derived.Test.YtegjebiocgbmpaaPx5
namespace Go.Proofs.Ytegjebiocgbmpaa.P
open Go.RowKit Go.Proofs.Ytegjebiocgbmpaa.P Go.Proofs.YtegjebiocgbmpaaW.PrintWords Go.Proofs.YtegjebiocgbmpaaW.PrintLast Go.Proofs.YtegjebiocgbmpaaW.PrintMore
set_option linter.unusedVariables false
set_option linter.unusedSimpArgs false
theorem rdL2_nat (X : List (List Int)) (b : Nat) : rd_L2 X (b : Int) = X.getD b [] := by unfold rd_L2; rw [Int.toNat_natCast]
theorem rdL3_nat (X : List (List (List Int))) (b : Nat) : rd_L3 X (b : Int) = X.getD b [] := by unfold rd_L3; rw [Int.toNat_natCast]
theorem rd_nat (X : List Int) (b : Nat) : rd X (b : Int) = X.getD b 0 := by unfold rd; rw [Int.toNat_natCast]
def rowGood (ns : List Int) (i : Nat) (X : List (List Int)) : Prop := X.length = 7 ∧ ∀ b : Nat, b < 7 → (X.getD b []).length = 7 ∧ ∀ c : Nat, c < 7 → (X.getD b []).getD c 0 = tvU ns i b c
theorem tvU_le (ns : List Int) (hl : ns.length ≤ 12) (i : Nat) (a b : Int) (hb : 0 ≤ b ∧ b ≤ 6) : tvU ns i a b ≤ 1000 := by
  unfold tvU
  by_cases c : i = ns.length
  · rw [if_pos c]
    split <;> omega
  · rw [if_neg c]
    have h1 := restU_small ns (ns.length - 1 - i) a b
    by_cases q : restU ns (ns.length - 1 - i) a b < 1000
    · rw [if_pos q]
      have := h1 q
      omega
    · rw [if_neg q]
      omega
theorem specRest_is (ns : List Int) (hl : 1 ≤ ns.length ∧ ns.length ≤ 12) (hv0 : ∀ x ∈ ns, 0 ≤ x ∧ x ≤ 12) (T : List (List (List Int))) (i : Nat) (hi : i ≤ ns.length) (hT : T.length = ns.length + 1) (hG : i < ns.length → rowGood ns (i + 1) (T.getD (i + 1) [])) (a b : Nat) (ha : a < 7) (hb : b < 7) :
    spec_l07Rest.f 100 ns T (i : Int) (a : Int) (b : Int) = some (tvU ns i a b) := by
  unfold spec_l07Rest.f
  by_cases e : (i : Int) = (ns.length : Int)
  · rw [if_pos e]
    have ht : tvU ns i a b = if (b : Int) > 0 then -1 else 0 := by
      unfold tvU
      rw [if_pos (by omega)]
    rw [ht]
    by_cases q : (b : Int) > 0
    · rw [if_pos q, if_pos q]
    · rw [if_neg q, if_neg q]
  · rw [if_neg e]
    have hlt : i < ns.length := by omega
    obtain ⟨g1, g2⟩ := hG hlt
    have hrow : rd_L3 T ((i + 1 : Nat) : Int) = T.getD (i + 1) [] := rdL3_nat T (i + 1)
    rw [specRest_loop ns hl.2 hv0 T i hlt hT a b (by omega) (by omega) (by rw [hrow]; exact g1) (by rw [hrow, rdL2_nat]; exact (g2 b hb).1) (fun c => tvU ns (i + 1) b c) (fun c h0 h6 => by
      obtain ⟨m, rfl⟩ : ∃ m : Nat, c = (m : Int) := ⟨c.toNat, by omega⟩
      rw [hrow, rdL2_nat, rd_nat]
      exact ⟨(g2 b hb).2 m (by omega), tvU_le ns hl.2 (i + 1) b (m : Int) (by omega)⟩) 7 100 0 (-1) (by omega) (by omega) (by omega)]
    rw [bestS_tv ns hl.2 i hlt a b (by omega)]
theorem getD_set_self {α : Type} (l : List α) (i : Nat) (x d : α) (h : i < l.length) : (l.set i x).getD i d = x := by
  rw [List.getD_eq_getElem?_getD, List.getElem?_set_self h]
  rfl
theorem getD_set_ne {α : Type} (l : List α) (i j : Nat) (x d : α) (h : i ≠ j) : (l.set i x).getD j d = l.getD j d := by
  rw [List.getD_eq_getElem?_getD, List.getElem?_set_ne h, List.getD_eq_getElem?_getD]
theorem few3_is (ns : List Int) (hl : 1 ≤ ns.length ∧ ns.length ≤ 12) (hv0 : ∀ x ∈ ns, 0 ≤ x ∧ x ≤ 12) (T : List (List (List Int))) (i : Nat) (hi : i ≤ ns.length) (hT : T.length = ns.length + 1) (hG : i < ns.length → rowGood ns (i + 1) (T.getD (i + 1) [])) (b : Nat) (hb : b < 7) : ∀ (d c : Nat) (xs : List Int), c + d = 7 → xs.length = 7 → (∀ j, j < c → xs.getD j 0 = tvU ns i b j) →
    ∃ row, few3 ns T i b d c xs = some row ∧ row.length = 7 ∧ ∀ j, j < 7 → row.getD j 0 = tvU ns i b j
  | 0, c, xs, hc, hx, hj => ⟨xs, rfl, hx, fun j h => hj j (by omega)⟩
  | d + 1, c, xs, hc, hx, hj => by
    simp only [few3]
    rw [specRest_is ns hl hv0 T i hi hT hG b c hb (by omega), bind_some_]
    refine few3_is ns hl hv0 T i hi hT hG b hb d (c + 1) _ (by omega) (by rw [List.length_set]; exact hx) (fun j h => ?_)
    by_cases e : c = j
    · subst e
      rw [getD_set_self _ _ _ _ (by omega)]
    · rw [getD_set_ne _ _ _ _ _ e]
      exact hj j (by omega)
theorem few2_is (ns : List Int) (hl : 1 ≤ ns.length ∧ ns.length ≤ 12) (hv0 : ∀ x ∈ ns, 0 ≤ x ∧ x ≤ 12) (i : Nat) (hi : i ≤ ns.length) : ∀ (d b : Nat) (T : List (List (List Int))), b + d = 7 → T.length = ns.length + 1 → (i < ns.length → rowGood ns (i + 1) (T.getD (i + 1) [])) → (T.getD i []).length = 7 →
    (∀ j, j < b → ((T.getD i []).getD j []).length = 7 ∧ ∀ c, c < 7 → ((T.getD i []).getD j []).getD c 0 = tvU ns i j c) →
    ∃ T', few2 ns i d b T = some T' ∧ T'.length = ns.length + 1 ∧ rowGood ns i (T'.getD i []) ∧ ∀ j, j ≠ i → T'.getD j [] = T.getD j []
  | 0, b, T, hb, hT, hG, h7, hr => ⟨T, rfl, hT, ⟨h7, fun j h => hr j (by omega)⟩, fun _ _ => rfl⟩
  | d + 1, b, T, hb, hT, hG, h7, hr => by
    obtain ⟨row, e, hrl, hrv⟩ := few3_is ns hl hv0 T i hi hT hG b (by omega) 7 0 (List.replicate 7 0) (by omega) (by simp) (fun j h => by omega)
    simp only [few2]
    rw [e, bind_some_]
    have hs : ∀ X, (T.set i X).getD i [] = X := fun X => getD_set_self _ _ _ _ (by omega)
    obtain ⟨T', e2, h1, h2, h3⟩ := few2_is ns hl hv0 i hi d (b + 1) (T.set i ((T.getD i []).set b row)) (by omega) (by rw [List.length_set]; exact hT) (fun h => by
      rw [getD_set_ne _ _ _ _ _ (by omega)]
      exact hG h) (by rw [hs, List.length_set]; exact h7) (fun j h => by
      rw [hs]
      by_cases q : b = j
      · subst q
        rw [getD_set_self _ _ _ _ (by omega)]
        exact ⟨hrl, hrv⟩
      · rw [getD_set_ne _ _ _ _ _ q]
        exact hr j (by omega))
    exact ⟨T', e2, h1, h2, fun j h => by rw [h3 j h, getD_set_ne _ _ _ _ _ (fun q => h q.symm)]⟩
theorem few1_is (ns : List Int) (hl : 1 ≤ ns.length ∧ ns.length ≤ 12) (hv0 : ∀ x ∈ ns, 0 ≤ x ∧ x ≤ 12) : ∀ (d : Nat) (T : List (List (List Int))), d ≤ ns.length + 1 → T.length = ns.length + 1 → (∀ j, d ≤ j → j ≤ ns.length → rowGood ns j (T.getD j [])) →
    ∃ T', few1 ns d T = some T' ∧ T'.length = ns.length + 1 ∧ ∀ j, j ≤ ns.length → rowGood ns j (T'.getD j [])
  | 0, T, _, hT, hG => ⟨T, rfl, hT, fun j h => hG j (Nat.zero_le _) h⟩
  | d + 1, T, hd, hT, hG => by
    obtain ⟨T', e, h1, h2, h3⟩ := few2_is ns hl hv0 d (by omega) 7 0 (T.set d (List.replicate 7 [])) (by omega) (by rw [List.length_set]; exact hT) (fun h => by
      rw [getD_set_ne _ _ _ _ _ (by omega)]
      exact hG (d + 1) (Nat.le_refl _) (by omega)) (by rw [getD_set_self _ _ _ _ (by omega)]; simp) (fun j h => by omega)
    simp only [few1]
    rw [e, bind_some_]
    refine few1_is ns hl hv0 d T' (by omega) h1 (fun j hj1 hj2 => ?_)
    by_cases q : j = d
    · subst q
      exact h2
    · rw [h3 j q, getD_set_ne _ _ _ _ _ (fun e => q e.symm)]
      exact hG j (by omega) hj2
theorem fewest_is (ns : List Int) (hl : 1 ≤ ns.length ∧ ns.length ≤ 12) (hv0 : ∀ x ∈ ns, 0 ≤ x ∧ x ≤ 12) : ∃ T, spec_l07Fewest.f ns = some T ∧ T.length = ns.length + 1 ∧ ∀ j, j ≤ ns.length → rowGood ns j (T.getD j []) := by
  unfold spec_l07Fewest.f
  rw [if_pos (by omega)]
  exact few1_is ns hl hv0 (ns.length + 1) _ (Nat.le_refl _) (by simp) (fun j h1 h2 => by omega)

end Go.Proofs.Ytegjebiocgbmpaa.P
