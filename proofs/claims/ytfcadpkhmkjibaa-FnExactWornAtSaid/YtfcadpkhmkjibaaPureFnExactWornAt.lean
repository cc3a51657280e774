/- The program's WornAt returns what the reference's returns, for all arguments; no condition. -/
import Derived.Test.YtfcadpkhmkjibaaCFnExactWornAt5
namespace Go.Proofs.Ytfcadpkhmkjibaa.Pure
open Go.RowKit Go.Proofs.Ytfcadpkhmkjibaa.P Go.Proofs.YtfcadpkhmkjibaaW.PrintWords Go.Proofs.YtfcadpkhmkjibaaW.PrintLast Go.Proofs.YtfcadpkhmkjibaaW.PrintMore
set_option linter.unusedVariables false
set_option linter.unusedSimpArgs false
theorem FnExactWornAt : laws_FnExactWornAt.Pure := by
  intro cs fc st x y p n hw1 hw2 hw3 _ _ hw4 _
  obtain ⟨wearK, hW⟩ : ∃ n, wearOk n := ⟨_, Nat.lt_succ_self _⟩
  obtain ⟨F, hF⟩ : ∃ F, F = wearK + 20000000 := ⟨_, rfl⟩
  obtain ⟨r, hr, hr2, hs⟩ := szHead_is2 cs fc st x y hw1.1 hw2.1 hw3.1
  by_cases h : r < 0
  · refine ⟨0, ?_⟩
    unfold laws_FnExactWornAt.f
    rw [hr, bind_some_, if_pos h]
  · obtain ⟨h1, h2, h3⟩ := hs.resolve_left h
    obtain ⟨q, hq, hs2⟩ := szStopS_is (F + 1) p r (by have := hw4.1; unfold maxLen at this; omega) (by intro s hs; have := (hw4.2 s hs).2.1; unfold maxLen at this; omega) (by omega) hr2 (by omega)
    have hl : (cs.map toCutter).length = cs.length := List.length_map ..
    refine ⟨F + 1, ?_⟩
    unfold laws_FnExactWornAt.f
    rw [hr, bind_some_, if_neg h, hq, bind_some_]
    by_cases h4 : q < 0
    · rw [if_pos h4]
    · obtain ⟨h5, h6⟩ := hs2.resolve_left h4
      have hsh := toStop_short h5 h6
      have hl2 : (p.map toStop).length = p.length := List.length_map ..
      obtain ⟨⟨m, b0, b1, b2⟩, q5, q6, q7⟩ := markHead_ok (F + 1) (cs.map toCutter) fc st x y (by omega) h2 h3 (by omega)
      dsimp only at q6 q7
      obtain ⟨v, hv⟩ : ∃ v, wornAtP (cs.map toCutter) fc st x y (p.map toStop) n = v := ⟨_, rfl⟩
      have hvl : v.1.length ≤ 1048576 := by
        rw [← hv]
        unfold wornAtP
        split
        · split
          · rw [wl_len]
            omega
          · simp
        · simp
      rw [if_neg h4, toHead_is _ cs fc st x y h1 h2 h3 (by omega), bind_some_]
      try dsimp only
      rw [toStopS_is _ p h5 h6 (by omega), bind_some_]
      try dsimp only
      rw [specWornAt_is _ _ fc st x y _ n (by omega) h2 h3 hsh (by omega), bind_some_, implWornAt_is wearK hW _ _ fc st x y _ n (by omega) h2 h3 hsh (by omega), bind_some_, hv, eqInt_is _ _ _ (by omega) (by omega), bind_some_, if_pos (decide_eq_true rfl), if_pos rfl, eqHead_refl _ _ fc st x y (by omega) h2 h3 (by omega), bind_some_, if_pos rfl, eqStopS_refl _ _ hsh (by omega), bind_some_, if_pos rfl, q5, bind_some_]
      try dsimp only
      rw [markStop_is _ _ m hsh ⟨by omega, by omega⟩ (by omega), bind_some_]
      try dsimp only
      rw [if_neg (by omega), markInt_is _ v.1 1 (by omega) (by omega) (by omega), bind_some_]
      try dsimp only
      rw [heldInt_is _ v.1.length 1 (by omega) (by omega) (by omega), bind_some_, if_neg (by omega), if_pos rfl]

end Go.Proofs.Ytfcadpkhmkjibaa.Pure
