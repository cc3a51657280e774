/- The program's FirstFailure returns what the reference's returns, for all arguments; no condition. -/
import Derived.Test.YtagmaflnnaonjaaCFnExactFirstFailure5
namespace Go.Proofs.Ytagmaflnnaonjaa.Pure
open Go.RowKit Go.Proofs.Ytagmaflnnaonjaa.P Go.Proofs.YtagmaflnnaonjaaW.PrintWords Go.Proofs.YtagmaflnnaonjaaW.PrintLast Go.Proofs.YtagmaflnnaonjaaW.PrintMore
set_option linter.unusedVariables false
set_option linter.unusedSimpArgs false
theorem FnExactFirstFailure : laws_FnExactFirstFailure.Pure := by
  intro cs fc st x y p hw1 hw2 hw3 _ _ hw4
  obtain ⟨wearK, hW⟩ : ∃ n, wearOk n := ⟨_, Nat.lt_succ_self _⟩
  obtain ⟨F, hF⟩ : ∃ F, F = wearK + 20000000 := ⟨_, rfl⟩
  obtain ⟨r, hr, hr2, hs⟩ := szHead_is2 cs fc st x y hw1.1 hw2.1 hw3.1
  by_cases h : r < 0
  · refine ⟨0, ?_⟩
    unfold laws_FnExactFirstFailure.f
    rw [hr, bind_some_, if_pos h]
  · obtain ⟨h1, h2, h3⟩ := hs.resolve_left h
    obtain ⟨q, hq, hs2⟩ := szStopS_is (F + 1) p r (by have := hw4.1; unfold maxLen at this; omega) (by intro s hs; have := (hw4.2 s hs).2.1; unfold maxLen at this; omega) (by omega) hr2 (by omega)
    have hl : (cs.map toCutter).length = cs.length := List.length_map ..
    refine ⟨F + 1, ?_⟩
    unfold laws_FnExactFirstFailure.f
    rw [hr, bind_some_, if_neg h, hq, bind_some_]
    by_cases h4 : q < 0
    · rw [if_pos h4]
    · obtain ⟨h5, h6⟩ := hs2.resolve_left h4
      have hsh := toStop_short h5 h6
      have hl2 : (p.map toStop).length = p.length := List.length_map ..
      rw [if_neg h4, toHead_is _ cs fc st x y h1 h2 h3 (by omega), bind_some_]
      try dsimp only
      rw [toStopS_is _ p h5 h6 (by omega), bind_some_]
      try dsimp only
      rw [specFirstFailure_is _ _ fc st x y _ (by omega) h2 h3 hsh (by omega), bind_some_, bind_some_]
      try dsimp only
      rw [bind_some_, implFirstFailure_is wearK hW _ _ fc st x y _ (by omega) h2 h3 hsh (by omega), bind_some_, if_pos rfl, if_pos rfl, bne_self_eq_false]
      simp only [laws_FnExactFirstFailure.j0]
      rw [if_neg (by simp), toHead_is _ cs fc st x y h1 h2 h3 (by omega), bind_some_]
      try dsimp only
      rw [eqHead_refl _ _ fc st x y (by omega) h2 h3 (by omega), bind_some_, if_pos rfl, toStopS_is _ p h5 h6 (by omega), bind_some_, eqStopS_refl _ _ hsh (by omega), bind_some_, if_pos rfl]

end Go.Proofs.Ytagmaflnnaonjaa.Pure
