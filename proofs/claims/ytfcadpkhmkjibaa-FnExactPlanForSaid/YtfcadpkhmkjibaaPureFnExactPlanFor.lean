/- The program's PlanFor returns what the reference's returns, for all arguments; no condition. -/
import Derived.Test.YtfcadpkhmkjibaaCFnExactPlanFor4
namespace Go.Proofs.Ytfcadpkhmkjibaa.Pure
open Go.RowKit Go.Proofs.Ytfcadpkhmkjibaa.P Go.Proofs.YtfcadpkhmkjibaaW.PrintWords Go.Proofs.YtfcadpkhmkjibaaW.PrintLast Go.Proofs.YtfcadpkhmkjibaaW.PrintMore
set_option linter.unusedVariables false
set_option linter.unusedSimpArgs false
theorem FnExactPlanFor : laws_FnExactPlanFor.Pure := by
  intro cs fc st x y s hw1 hw2 hw3 _ _ hw4
  obtain ⟨wearK, hW⟩ : ∃ n, wearOk n := ⟨_, Nat.lt_succ_self _⟩
  obtain ⟨F, hF⟩ : ∃ F, F = wearK + 400000000 := ⟨_, rfl⟩
  by_cases h0 : (s.length : Int) > 1048576
  · refine ⟨0, ?_⟩
    unfold laws_FnExactPlanFor.f
    rw [if_pos h0]
  · obtain ⟨r, hr, hs⟩ := szHead_is cs fc st x y hw1.1 hw2.1 hw3.1
    refine ⟨F, ?_⟩
    unfold laws_FnExactPlanFor.f
    rw [if_neg h0, hr, bind_some_]
    by_cases h : r < 0
    · rw [if_pos h]
    · obtain ⟨h1, h2, h3⟩ := hs.resolve_left h
      have hl : (cs.map toCutter).length = cs.length := List.length_map ..
      obtain ⟨⟨m, b0, b1, b2⟩, q5, q6, q7⟩ := markHead_ok F (cs.map toCutter) fc st x y (by omega) h2 h3 (by omega)
      dsimp only at q6 q7
      have hsh := planForP_in (cs.map toCutter) fc st x y s (by omega)
      obtain ⟨v, hv⟩ : ∃ v, planForP (cs.map toCutter) fc st x y s = v := ⟨_, rfl⟩
      rw [hv] at hsh
      have hvl := hsh.1
      rw [if_neg h, toHead_is F cs fc st x y h1 h2 h3 (by omega), bind_some_]
      try dsimp only
      rw [toInt_is F s (by omega) (by omega), bind_some_, specPlanFor_is F _ fc st x y s (by omega) h2 h3 (by omega) (by omega), bind_some_, implPlanFor_is wearK hW F _ fc st x y s (by omega) h2 h3 (by omega) (by omega), bind_some_, hv, eqStopS_refl F _ hsh (by omega), bind_some_, if_pos rfl, if_pos rfl, eqHead_refl F _ fc st x y (by omega) h2 h3 (by omega), bind_some_, if_pos rfl, eqInt_is F s s (by omega) (by omega), bind_some_, if_pos (decide_eq_true rfl), q5, bind_some_]
      try dsimp only
      rw [markInt_is F s m (by omega) (by omega) (by omega), bind_some_]
      try dsimp only
      rw [if_neg (by omega), markStop_is F v.1 1 hsh ⟨by omega, by omega⟩ (by omega), bind_some_]
      try dsimp only
      rw [heldStop_is F v.1 1 hsh ⟨by omega, by omega⟩ (by omega), bind_some_, if_neg (by omega), if_pos rfl]

end Go.Proofs.Ytfcadpkhmkjibaa.Pure
