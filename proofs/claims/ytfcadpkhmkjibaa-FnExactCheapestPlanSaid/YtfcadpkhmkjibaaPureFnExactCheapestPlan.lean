/- The program's CheapestPlan returns what the reference's returns, for all arguments; no condition. -/
import Derived.Test.YtfcadpkhmkjibaaCFnExactCheapestPlan5
import Derived.Test.YtfcadpkhmkjibaaCFnExactCheapestPlan4
namespace Go.Proofs.Ytfcadpkhmkjibaa.Pure
open Go.RowKit Go.Proofs.Ytfcadpkhmkjibaa.P Go.Proofs.YtfcadpkhmkjibaaW.PrintWords Go.Proofs.YtfcadpkhmkjibaaW.PrintLast Go.Proofs.YtfcadpkhmkjibaaW.PrintMore
set_option linter.unusedVariables false
set_option linter.unusedSimpArgs false
theorem FnExactCheapestPlan : laws_FnExactCheapestPlan.Pure := by
  intro cs fc st x y hw1 hw2 hw3 _ _
  obtain ⟨wearK, hW⟩ : ∃ n, wearOk n := ⟨_, Nat.lt_succ_self _⟩
  obtain ⟨F, hF⟩ : ∃ F, F = wearK + 600000000 := ⟨_, rfl⟩
  obtain ⟨r, hr, hs⟩ := szHead_is cs fc st x y hw1.1 hw2.1 hw3.1
  refine ⟨F, ?_⟩
  unfold laws_FnExactCheapestPlan.f
  rw [hr, bind_some_]
  by_cases h : r < 0
  · rw [if_pos h]
  · obtain ⟨h1, h2, h3⟩ := hs.resolve_left h
    have hl : (cs.map toCutter).length = cs.length := List.length_map ..
    obtain ⟨⟨m, b0, b1, b2⟩, q5, q6, q7⟩ := markHead_ok F (cs.map toCutter) fc st x y (by omega) h2 h3 (by omega)
    dsimp only at q6 q7
    have hsh := cheapP_in (cs.map toCutter) fc st x y
    obtain ⟨v, hv⟩ : ∃ v, cheapP (cs.map toCutter) fc st x y = v := ⟨_, rfl⟩
    rw [hv] at hsh
    have hvl := hsh.1
    rw [if_neg h, toHead_is F cs fc st x y h1 h2 h3 (by omega), bind_some_]
    try dsimp only
    rw [specCheap_is F _ fc st x y (by omega) h2 h3 (by omega), bind_some_, implCheap_is wearK hW F _ fc st x y (by omega) h2 h3 (by omega), bind_some_, hv, eqStopS_refl F _ hsh (by omega), bind_some_, if_pos rfl, if_pos rfl, if_pos rfl, eqHead_refl F _ fc st x y (by omega) h2 h3 (by omega), bind_some_, if_pos rfl, q5, bind_some_]
    try dsimp only
    rw [if_neg (by omega), markStop_is F v.1 1 hsh ⟨by omega, by omega⟩ (by omega), bind_some_]
    try dsimp only
    rw [heldStop_is F v.1 1 hsh ⟨by omega, by omega⟩ (by omega), bind_some_, if_neg (by omega), if_pos rfl]

end Go.Proofs.Ytfcadpkhmkjibaa.Pure
