/- The program's WeightOf returns what the reference's returns, for all arguments; no condition. -/
import Derived.Test.YtgfpbiaocokdeaaCFnExactWeightOf4
namespace Go.Proofs.Ytgfpbiaocokdeaa.Pure
open Go.RowKit Go.Proofs.Ytgfpbiaocokdeaa.P Go.Proofs.YtgfpbiaocokdeaaW.PrintWords Go.Proofs.YtgfpbiaocokdeaaW.PrintLast Go.Proofs.YtgfpbiaocokdeaaW.PrintMore
set_option linter.unusedVariables false
set_option linter.unusedSimpArgs false
theorem FnExactWeightOf : laws_FnExactWeightOf.Pure := by
  intro ds hs r h hw1 hw2 _ _
  obtain ⟨F, hF⟩ : ∃ F, F = 20000000 := ⟨_, rfl⟩
  obtain ⟨q, hq, hq2, hs2⟩ := szGround_is (F + 1) ds hs hw1.1 hw2.1 (fun s hs => (hw2.2 s hs).2.1) (by omega)
  refine ⟨F + 1, ?_⟩
  unfold laws_FnExactWeightOf.f
  rw [hq, bind_some_]
  by_cases c : q < 0
  · rw [if_pos c]
  · obtain ⟨h1, h2, h3⟩ := hs2.resolve_left c
    have hsh := toHole_short h2 h3
    rw [if_neg c, toGround_is _ ds hs h1 h2 h3 (by omega), bind_some_]
    try dsimp only
    rw [specWeightOf_is _ ds _ r h h1 hsh (by omega), bind_some_, bind_some_]
    try dsimp only
    rw [implWeightOf_is _ ds _ r h hsh (by omega), bind_some_, if_pos rfl, bne_self_eq_false]
    simp only [laws_FnExactWeightOf.j0]
    rw [if_neg (by simp), toGround_is _ ds hs h1 h2 h3 (by omega), bind_some_]
    try dsimp only
    rw [eqGround_refl _ ds _ h1 hsh (by omega), bind_some_, if_pos rfl]

end Go.Proofs.Ytgfpbiaocokdeaa.Pure
