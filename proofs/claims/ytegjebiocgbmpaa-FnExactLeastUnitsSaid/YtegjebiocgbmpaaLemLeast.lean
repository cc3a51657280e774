/- The fewest units for needs: what is reckoned from a point on is the least sum, and the greedy choice adds up to it and lifts as needed. -/
import Derived.Test.YtegjebiocgbmpaaLemIsLifted
import Derived.Test.YtegjebiocgbmpaaLemLifts
import Derived.Test.YtegjebiocgbmpaaPx1
namespace Go.Proofs.Ytegjebiocgbmpaa.P
open Go.RowKit Go.Proofs.Ytegjebiocgbmpaa.P Go.Proofs.YtegjebiocgbmpaaW.PrintWords Go.Proofs.YtegjebiocgbmpaaW.PrintLast Go.Proofs.YtegjebiocgbmpaaW.PrintMore
set_option linter.unusedVariables false
set_option linter.unusedSimpArgs false
def planU (ns : List Int) : Nat → Int → Int → List Int → Prop
  | 0, a, b, [] => ¬ (0 < ns.length ∧ a + 2 * b < rd ns ((ns.length - 1 : Nat) : Int))
  | d + 1, a, b, c :: t => mayC ns (ns.length - (d + 1)) a b c ∧ planU ns d b c t
  | _, _, _, _ => False
theorem restU_le (ns : List Int) : ∀ (d : Nat) (a b : Int) (us : List Int), planU ns d a b us → (∀ v ∈ us, 0 ≤ v ∧ v ≤ 6) → restU ns d a b ≤ us.sum
  | 0, a, b, [], h, _ => by
    simp only [planU] at h
    simp only [restU]
    rw [if_neg h]
    simp
  | 0, a, b, _ :: _, h, _ => by simp [planU] at h
  | d + 1, a, b, [], h, _ => by simp [planU] at h
  | d + 1, a, b, c :: t, h, hv => by
    simp only [planU] at h
    have hc := hv c (by simp)
    have ih := restU_le ns d b c t h.2 (fun v hm => hv v (List.mem_cons_of_mem _ hm))
    have := (bestC_le ns (ns.length - (d + 1)) a b (fun c => restU ns d b c) 7 0 1000).2 c hc.1 (by omega) h.1
    simp only [restU]
    rw [List.sum_cons]
    omega
theorem pickC_may (ns : List Int) (i : Nat) (a b : Int) (R : Int → Int) (left : Int) : ∀ (d : Nat) (c z : Int), pickC ns i a b R left d c = some z → mayC ns i a b z
  | 0, c, z, h => by simp [pickC] at h
  | d + 1, c, z, h => by
    simp only [pickC] at h
    by_cases q : mayC ns i a b c ∧ c + R c = left
    · rw [if_pos q] at h
      rw [← Option.some.inj h]
      exact q.1
    · rw [if_neg q] at h
      exact pickC_may ns i a b R left d (c + 1) z h
theorem goodU_is (ns : List Int) : ∀ (d : Nat) (a b : Int), restU ns d a b < 1000 → planU ns d a b (goodU ns d a b) ∧ (goodU ns d a b).sum = restU ns d a b ∧ (goodU ns d a b).length = d ∧ ∀ v ∈ goodU ns d a b, 0 ≤ v ∧ v ≤ 6
  | 0, a, b, h => by
    simp only [restU] at h ⊢
    by_cases c : 0 < ns.length ∧ a + 2 * b < rd ns ((ns.length - 1 : Nat) : Int)
    · rw [if_pos c] at h; omega
    · rw [if_neg c]
      exact ⟨c, by simp [goodU], rfl, fun v hv => by simp [goodU] at hv⟩
  | d + 1, a, b, h => by
    obtain ⟨z, e, z1, z2, hz, z4, eg⟩ := goodU_step ns d a b h
    have z3 := pickC_may ns (ns.length - (d + 1)) a b _ _ 7 0 z e
    obtain ⟨i1, i2, i3, i4⟩ := goodU_is ns d b z hz
    rw [eg]
    refine ⟨⟨z3, i1⟩, by rw [List.sum_cons]; omega, by rw [List.length_cons]; omega, fun v hv => ?_⟩
    rcases List.mem_cons.mp hv with e2 | e2
    · omega
    · exact i4 v e2
def extU (us : List Int) (m : Nat) : Int := (0 :: 0 :: us).getD m 0
theorem extU_at (us : List Int) (j : Nat) : rd us (j : Int) = extU us (j + 2) := rfl
theorem extU_in (us : List Int) (h : ∀ v ∈ us, 0 ≤ v ∧ v ≤ 6) : ∀ m, 0 ≤ extU us m ∧ extU us m ≤ 6
  | 0 => ⟨Int.le_refl 0, (by decide : (0 : Int) ≤ 6)⟩
  | 1 => ⟨Int.le_refl 0, (by decide : (0 : Int) ≤ 6)⟩
  | j + 2 => by
    show 0 ≤ us.getD j 0 ∧ us.getD j 0 ≤ 6
    rw [List.getD_eq_getElem?_getD]
    cases e : us[j]? with
    | none => exact ⟨by decide, by decide⟩
    | some x => exact h x (List.mem_of_getElem? e)
theorem extU_end (us : List Int) (m : Nat) (h : us.length + 2 ≤ m) : extU us m = 0 := by
  unfold extU
  rw [List.getD_eq_getElem?_getD, List.getElem?_eq_none (by simp; omega)]
  rfl
theorem liftAt_is (us : List Int) (h : ∀ v ∈ us, 0 ≤ v ∧ v ≤ 6) (i : Nat) (hi : i < us.length) : liftAt us i = extU us (i + 1) + 2 * extU us (i + 2) + extU us (i + 3) := by
  have h1 := extU_in us h (i + 1)
  have h2 := extU_in us h (i + 2)
  have h3 := extU_in us h (i + 3)
  have e3 : rd us ((i + 1 : Nat) : Int) = extU us (i + 3) := extU_at us (i + 1)
  unfold liftAt
  rw [extU_at us i, e3]
  dsimp only
  have w1 : wrap64 (2 * extU us (i + 2)) = 2 * extU us (i + 2) := by unfold wrap64; omega
  rw [w1]
  by_cases c : 0 < i
  · have e1 : rd us ((i - 1 : Nat) : Int) = extU us (i + 1) := by rw [extU_at, show i - 1 + 2 = i + 1 by omega]
    rw [if_pos c, e1]
    have w2 : wrap64 (2 * extU us (i + 2) + extU us (i + 1)) = 2 * extU us (i + 2) + extU us (i + 1) := by unfold wrap64; omega
    rw [w2]
    by_cases q : i + 1 < us.length
    · rw [if_pos q]
      unfold wrap64
      omega
    · rw [if_neg q, extU_end us (i + 3) (by omega)]
      omega
  · have e1 : extU us (i + 1) = 0 := by rw [show i = 0 by omega]; rfl
    rw [if_neg c, e1]
    by_cases q : i + 1 < us.length
    · rw [if_pos q]
      unfold wrap64
      omega
    · rw [if_neg q, extU_end us (i + 3) (by omega)]
      omega
theorem liftsGo_at (l : List Int) : ∀ (d i j : Nat), j < d → (liftsGo l d i).getD j 0 = liftAt l (i + j)
  | 0, i, j, h => by omega
  | d + 1, i, 0, h => rfl
  | d + 1, i, j + 1, h => by
    show (liftsGo l d (i + 1)).getD j 0 = _
    rw [liftsGo_at l d (i + 1) j (by omega), show i + 1 + j = i + (j + 1) by omega]
theorem liftsOf_rd (us : List Int) (h : ∀ v ∈ us, 0 ≤ v ∧ v ≤ 6) (i : Nat) (hi : i < us.length) : rd (liftsOf us) (i : Int) = extU us (i + 1) + 2 * extU us (i + 2) + extU us (i + 3) := by
  show (liftsGo us us.length 0).getD i 0 = _
  rw [liftsGo_at us us.length 0 i hi, Nat.zero_add, liftAt_is us h i hi]
theorem metGo_iff (n u : List Int) : ∀ (d i : Nat), metGo n u d i = true ↔ ∀ j : Nat, i ≤ j → j < i + d → ¬ rd u (j : Int) < rd n (j : Int)
  | 0, i => ⟨fun _ j h1 h2 => by omega, fun _ => rfl⟩
  | d + 1, i => by
    simp only [metGo, Bool.and_eq_true, Bool.not_eq_true', decide_eq_false_iff_not]
    rw [metGo_iff n u d (i + 1)]
    constructor
    · intro ⟨h1, h2⟩ j j1 j2
      by_cases e : j = i
      · rw [e]; exact h1
      · exact h2 j (by omega) (by omega)
    · intro h
      exact ⟨h i (by omega) (by omega), fun j j1 j2 => h j (by omega) (by omega)⟩
theorem planU_iff (ns us : List Int) (hl : us.length = ns.length) (hp : 1 ≤ ns.length) : ∀ (d i : Nat), i + d = ns.length → (planU ns d (extU us i) (extU us (i + 1)) (us.drop i) ↔ ∀ m : Nat, i ≤ m → 1 ≤ m → m ≤ ns.length → extU us m + 2 * extU us (m + 1) + extU us (m + 2) ≥ rd ns ((m - 1 : Nat) : Int))
  | 0, i, hi => by
    rw [List.drop_of_length_le (by omega)]
    simp only [planU]
    constructor
    · intro h m m1 m2 m3
      have e : m = ns.length := by omega
      have e2 : i = ns.length := by omega
      subst e
      rw [e2] at h
      rw [extU_end us (ns.length + 2) (by omega)]
      by_cases q : extU us ns.length + 2 * extU us (ns.length + 1) < rd ns ((ns.length - 1 : Nat) : Int)
      · exact absurd ⟨by omega, q⟩ h
      · omega
    · intro h ⟨q1, q2⟩
      have e2 : i = ns.length := by omega
      have := h ns.length (by omega) hp (Nat.le_refl _)
      rw [extU_end us (ns.length + 2) (by omega)] at this
      rw [e2] at q2
      omega
  | d + 1, i, hi => by
    have hlt : i < us.length := by omega
    rw [List.drop_eq_getElem_cons hlt]
    simp only [planU]
    have ec : us[i] = extU us (i + 2) := by
      show _ = us.getD i 0
      rw [List.getD_eq_getElem?_getD, List.getElem?_eq_getElem hlt]
      rfl
    rw [ec, planU_iff ns us hl hp d (i + 1) (by omega), show ns.length - (d + 1) = i by omega]
    unfold mayC
    constructor
    · intro ⟨h1, h2⟩ m m1 m2 m3
      by_cases e : m = i
      · subst e
        rcases h1 with h1 | h1
        · omega
        · exact h1
      · exact h2 m (by omega) m2 m3
    · intro h
      refine ⟨?_, fun m m1 m2 m3 => h m (by omega) m2 m3⟩
      by_cases e : i = 0
      · exact Or.inl e
      · exact Or.inr (h i (Nat.le_refl _) (by omega) (by omega))
theorem lifted_plan {ns us : List Int} (hu : ∀ v ∈ us, 0 ≤ v ∧ v ≤ 6) (hl : us.length = ns.length) (hp : 1 ≤ ns.length) : metGo ns (liftsOf us) ns.length 0 = true ↔ planU ns ns.length 0 0 us := by
  have := planU_iff ns us hl hp ns.length 0 (by omega)
  rw [List.drop_zero] at this
  rw [metGo_iff, show planU ns ns.length 0 0 us ↔ _ from this]
  constructor
  · intro h m _ m2 m3
    have h2 := h (m - 1) (by omega) (by omega)
    rw [liftsOf_rd us hu (m - 1) (by omega), show m - 1 + 1 = m by omega, show m - 1 + 2 = m + 1 by omega, show m - 1 + 3 = m + 2 by omega] at h2
    omega
  · intro h j _ j2
    have h2 := h (j + 1) (by omega) (by omega) (by omega)
    rw [liftsOf_rd us hu j (by omega)]
    rw [show j + 1 - 1 = j by omega, show j + 1 + 1 = j + 2 by omega, show j + 1 + 2 = j + 3 by omega] at h2
    omega
theorem wfoldl_sum : ∀ (l : List Int) (a : Int), (∀ v ∈ l, 0 ≤ v ∧ v ≤ 6) → 0 ≤ a → a + 6 * l.length ≤ 1000000 → l.foldl (fun a x => wrap64 (a + x)) a = a + l.sum
  | [], a, _, _, _ => by simp
  | v :: l, a, h, h0, h1 => by
    have hv := h v (by simp)
    rw [List.length_cons] at h1
    have e : wrap64 (a + v) = a + v := by unfold wrap64; omega
    rw [List.foldl_cons, e, wfoldl_sum l (a + v) (fun x hx => h x (List.mem_cons_of_mem _ hx)) (by omega) (by omega), List.sum_cons]
    omega

end Go.Proofs.Ytegjebiocgbmpaa.P
