/- The program's GroundText returns what the reference's returns, for all arguments; no condition. -/
import Derived.Test.YtgfpbiaocokdeaaDoorCFnExactGroundText3
namespace Go.Proofs.YtgfpbiaocokdeaaDoor.Pure
open Go.RowKit Go.Proofs.YtgfpbiaocokdeaaDoor.P Go.Proofs.YtgfpbiaocokdeaaDoorW.PrintWords Go.Proofs.YtgfpbiaocokdeaaDoorW.PrintLast Go.Proofs.YtgfpbiaocokdeaaDoorW.PrintMore
set_option linter.unusedVariables false
set_option linter.unusedSimpArgs false
theorem FnExactGroundText : laws_FnExactGroundText.Pure := by
  intro ds hs hw1 hw2
  obtain ⟨F, hF⟩ : ∃ F, F = 20000000 := ⟨_, rfl⟩
  obtain ⟨q, hq, hq2, hs2⟩ := szGround_is (F + 1) ds hs hw1.1 hw2.1 (fun s hs => (hw2.2 s hs).2.1) (by omega)
  refine ⟨F + 1, ?_⟩
  unfold laws_FnExactGroundText.f
  rw [hq, bind_some_]
  by_cases c : q < 0
  · rw [if_pos c]
  · obtain ⟨h1, h2, h3⟩ := hs2.resolve_left c
    have hsh := toHole_short h2 h3
    have h64 := toHole_64 hw2 h3
    have d64 : I64s ds := fun z hz => wf64 (hw1.2 z hz)
    rw [if_neg c, toGround_is _ ds hs h1 h2 h3 (by omega), bind_some_]
    try dsimp only
    rw [specGroundT_is _ ds _ h1 d64 hsh h64 (by omega), bind_some_, bind_some_]
    try dsimp only
    rw [implGroundT_is _ ds _ h1 d64 hsh h64 (by omega), bind_some_, if_pos rfl, bne_self_eq_false]
    simp only [laws_FnExactGroundText.j0]
    rw [if_neg (by simp), toGround_is _ ds hs h1 h2 h3 (by omega), bind_some_]
    try dsimp only
    rw [eqGround_refl _ ds _ h1 hsh (by omega), bind_some_, if_pos rfl]

end Go.Proofs.YtgfpbiaocokdeaaDoor.Pure
