/- The cheapest plan is sufficient, no plan that is sufficient costs less, and the bound is not greater than its cost; no condition. -/
import Derived.Test.YtfcadpkhmkjibaaCFnCheapest3
import Derived.Test.YtfcadpkhmkjibaaCFnCheapest2
import Derived.Test.YtfcadpkhmkjibaaCFnCheapest0
namespace Go.Proofs.Ytfcadpkhmkjibaa.Pure
open Go.RowKit Go.Proofs.Ytfcadpkhmkjibaa.P Go.Proofs.YtfcadpkhmkjibaaW.PrintWords Go.Proofs.YtfcadpkhmkjibaaW.PrintLast Go.Proofs.YtfcadpkhmkjibaaW.PrintMore
set_option linter.unusedVariables false
set_option linter.unusedSimpArgs false
theorem FnCheapest : laws_FnCheapest.Pure := by
  intro l m _ _ hl _ _ hm
  obtain ⟨wearK, hW⟩ : ∃ n, wearOk n := ⟨_, Nat.lt_succ_self _⟩
  obtain ⟨F, hF⟩ : ∃ F, F = wearK + 600000000 := ⟨_, rfl⟩
  obtain ⟨G, hG⟩ : ∃ G, F = G + 1 := ⟨F - 1, by omega⟩
  obtain ⟨⟨cs, fc, st, x, y⟩, q1, hh, hz⟩ := drawHead_is l hl F (by omega)
  dsimp only at hh hz
  obtain ⟨p, q2, hpo, hp⟩ := drawPlan_is m hm cs fc st x y hh hz F (by omega)
  have hin := hdOk_in hh
  have hpF := planF_of (by omega) hpo
  have hpw := rz_pw hz
  have hrng : ∀ v ∈ st, 0 ≤ v ∧ v < (fc.length : Int) := fun v hv => by
    obtain ⟨j, hj, e⟩ := List.getElem_of_mem hv
    have := hz.1 j hj
    rw [rd_at st j hj, e] at this
    exact this
  have hcost : ∀ p : List S49, shortS p → PlanF cs.length st p → ∀ k, wearK + 500000000 ≤ k → impl_CostOf.f k cs fc st x y p = some (costGo x y p 0, true) := fun p hp hpF k hk => by
    rw [implCostOf_is _ cs fc st x y p (by omega) (by omega) (by omega) hp (by omega), costP_is hh (planF_ok (by omega) hpF)]
  have henough : ∀ p : List S49, shortS p → PlanF cs.length st p → ∀ k, wearK + 500000000 ≤ k → impl_IsEnough.f k cs fc st x y p = some (failP cs fc p).isNone := fun p hp hpF k hk => by
    rw [implIsEnough_is wearK hW k cs fc st x y p (by omega) (by omega) (by omega) hp (by omega), enoughP_is hh (planF_ok (by omega) hpF)]
  have hshort : ∀ p : List S49, PlanF cs.length st p → shortS p := fun p hp => by
    refine ⟨by have := pl_small hh hz hp; omega, fun t ht => by have := f1_short hp t ht; omega⟩
  refine ⟨F, ?_⟩
  unfold laws_FnCheapest.f laws_r8Long.f
  by_cases h1 : (l.length : Int) > 48
  · rw [if_pos h1, bind_some_, if_pos rfl]
  · rw [if_neg h1, bind_some_]
    by_cases h2 : (m.length : Int) > 48
    · rw [if_pos (by simpa using h2)]
    · rw [if_neg (by simpa using h2), q1, bind_some_]
      dsimp only
      rw [implCheap_is wearK hW F cs fc st x y (by omega) (by omega) (by omega) (by omega), bind_some_, implBoundOf_is F cs fc st x y (by omega) (by omega) (by omega) (by omega), bind_some_]
      rw [q2, bind_some_, hcost p hp hpF F (by omega), bind_some_, implPlanFor_is wearK hW _ cs fc st x y st (by omega) (by omega) (by omega) (by omega) (by omega), bind_some_, planForP_is hh st hpw hrng (fun v hv => hv)]
      have hb := bound_ok hh hz
      unfold cheapP
      rw [if_pos hh]
      rcases best_is hh hz with ⟨hf, q, c, e1, hqF, hqf, hqc, hmin⟩ | ⟨hf, e1, hno⟩
      · rw [hf] at hb
        have hfF := forP_F (cs := cs) (fc := fc) st hpw hrng (fun v hv => hv)
        have hle1 := hmin _ hfF hf
        have hle2 := bound_le hh hz hqF hqf
        rw [e1, if_pos hf]
        simp only [outC]
        rw [hb, hG]
        simp only [bne_self_eq_false, Bool.false_eq_true, if_false, Bool.not_true]
        simp only [laws_FnCheapest.j0]
        rw [if_neg (by simp), if_pos trivial, hcost q (hshort q hqF) hqF G (by omega), bind_some_, hcost _ (hshort _ hfF) hfF G (by omega), bind_some_]
        dsimp only
        rw [if_pos rfl, if_pos rfl, if_pos hqc.symm, henough q (hshort q hqF) hqF G (by omega), bind_some_, hqf, if_pos rfl, if_neg (by omega), if_neg (by omega), henough p hp hpF G (by omega), bind_some_]
        cases hpf : (failP cs fc p).isNone with
        | true =>
          have := hmin p hpF hpf
          rw [if_pos rfl, decide_eq_true (by omega)]
        | false => rw [if_neg (by simp)]
      · rw [hf] at hb
        rw [e1, if_neg (show ¬ (failP cs fc (forP cs fc st)).isNone = true by rw [hf]; simp)]
        simp only [outC]
        rw [hb, hG]
        simp only [bne_self_eq_false, Bool.false_eq_true, if_false, Bool.not_true]
        simp only [laws_FnCheapest.j0]
        rw [if_neg (by simp), if_neg (by simp), henough p hp hpF G (by omega), bind_some_, hno p hpF]
        rfl

end Go.Proofs.Ytfcadpkhmkjibaa.Pure
