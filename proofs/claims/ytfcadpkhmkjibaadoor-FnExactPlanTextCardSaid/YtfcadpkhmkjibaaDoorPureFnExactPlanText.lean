/- The program's PlanText returns what the reference's returns, for all arguments; no condition. -/
import Derived.Test.YtfcadpkhmkjibaaDoorCFnExactPlanText4
namespace Go.Proofs.YtfcadpkhmkjibaaDoor.Pure
open Go.RowKit Go.Proofs.YtfcadpkhmkjibaaDoor.P Go.Proofs.YtfcadpkhmkjibaaDoorW.PrintWords Go.Proofs.YtfcadpkhmkjibaaDoorW.PrintLast Go.Proofs.YtfcadpkhmkjibaaDoorW.PrintMore
set_option linter.unusedVariables false
set_option linter.unusedSimpArgs false
theorem FnExactPlanText : laws_FnExactPlanText.Pure := by
  intro cs fc st x y p hw1 hw2 hw3 _ _ hw4
  obtain ⟨r, hr, hr2, hs⟩ := szHead_is2 cs fc st x y hw1.1 hw2.1 hw3.1
  by_cases h : r < 0
  · refine ⟨0, ?_⟩
    unfold laws_FnExactPlanText.f
    rw [hr, bind_some_, if_pos h]
  · obtain ⟨h1, h2, h3⟩ := hs.resolve_left h
    obtain ⟨F, hF⟩ : ∃ F, F = cs.length + fc.length + st.length + p.length + 8000000 := ⟨_, rfl⟩
    obtain ⟨G, hG⟩ : ∃ G, F = G + 1 := ⟨F - 1, by omega⟩
    obtain ⟨q, hq, hs2⟩ := szStopS_is F p r (by have := hw4.1; unfold maxLen at this; omega) (by intro s hs; have := (hw4.2 s hs).2.1; unfold maxLen at this; omega) (by omega) hr2 (by omega)
    have hl : (cs.map toCutter).length = cs.length := List.length_map ..
    refine ⟨F, ?_⟩
    unfold laws_FnExactPlanText.f
    rw [hr, bind_some_, if_neg h, hq, bind_some_]
    by_cases h4 : q < 0
    · rw [if_pos h4]
    · obtain ⟨h5, h6⟩ := hs2.resolve_left h4
      have hsh := toStop_short h5 h6
      have h64 := toStop_64 hw4 h6
      have hl2 : (p.map toStop).length = p.length := List.length_map ..
      rw [if_neg h4, toHead_is _ cs fc st x y h1 h2 h3 (by omega), bind_some_]
      try dsimp only
      rw [toStopS_is _ p h5 h6 (by omega), bind_some_]
      try dsimp only
      rw [specPlanT_is _ _ fc st x y _ (by omega) h2 h3 hsh h64 (by omega), bind_some_, bind_some_]
      try dsimp only
      rw [bind_some_, implPlanT_is _ _ fc st x y _ (by omega) h2 h3 hsh h64 (by omega), bind_some_, if_pos rfl, bne_self_eq_false, hG]
      simp only [laws_FnExactPlanText.j0]
      rw [if_neg (by simp), toHead_is _ cs fc st x y h1 h2 h3 (by omega), bind_some_]
      try dsimp only
      rw [eqHead_refl _ _ fc st x y (by omega) h2 h3 (by omega), bind_some_, if_pos rfl, toStopS_is _ p h5 h6 (by omega), bind_some_]
      try dsimp only
      rw [eqStopS_refl _ _ hsh (by omega), bind_some_, if_pos rfl]

end Go.Proofs.YtfcadpkhmkjibaaDoor.Pure
