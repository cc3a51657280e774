/- The program's FaceOf returns what the reference's returns, for all arguments; no condition. -/
import Derived.Test.YtgfpbiaocokdeaaCFnExactFaceOf4
namespace Go.Proofs.Ytgfpbiaocokdeaa.Pure
open Go.RowKit Go.Proofs.Ytgfpbiaocokdeaa.P Go.Proofs.YtgfpbiaocokdeaaW.PrintWords Go.Proofs.YtgfpbiaocokdeaaW.PrintLast Go.Proofs.YtgfpbiaocokdeaaW.PrintMore
set_option linter.unusedVariables false
set_option linter.unusedSimpArgs false
theorem FnExactFaceOf : laws_FnExactFaceOf.Pure := by
  intro ds hs r h hw1 hw2 _ _
  obtain ⟨F, hF⟩ : ∃ F, F = 20000000 := ⟨_, rfl⟩
  obtain ⟨q, hq, hq2, hs2⟩ := szGround_is F ds hs hw1.1 hw2.1 (fun s hs => (hw2.2 s hs).2.1) (by omega)
  refine ⟨F, ?_⟩
  unfold laws_FnExactFaceOf.f
  rw [hq, bind_some_]
  by_cases c : q < 0
  · rw [if_pos c]
  · obtain ⟨h1, h2, h3⟩ := hs2.resolve_left c
    have hsh := toHole_short h2 h3
    obtain ⟨⟨m, b0, b1⟩, q5, q6⟩ := markGround_ok F ds (hs.map toHole) 1 ⟨by omega, by omega⟩ h1 hsh (by omega)
    dsimp only at q6
    obtain ⟨v, hv⟩ : ∃ v, faceP ds (hs.map toHole) r h = v := ⟨_, rfl⟩
    have hvl : v.1.length ≤ 1048576 := by
      rw [← hv]
      unfold faceP
      split
      · rename_i hc
        rw [Bool.and_eq_true] at hc
        have := topsAt_len hc.1 r
        rw [faceOf_len]
        have := (grOk_in hc.1).1
        omega
      · simp
    rw [if_neg c, toGround_is F ds hs h1 h2 h3 (by omega), bind_some_]
    try dsimp only
    rw [specFaceOf_is F ds _ r h h1 hsh (by omega), bind_some_, implFaceOf_is F ds _ r h hsh (by omega), bind_some_, hv, eqInt_is F _ _ (by omega) (by omega), bind_some_, if_pos (decide_eq_true rfl), if_pos rfl, eqGround_refl F ds _ h1 hsh (by omega), bind_some_, if_pos rfl, q5, bind_some_]
    try dsimp only
    rw [if_neg (by omega), markInt_is F v.1 1 (by omega) (by omega) (by omega), bind_some_]
    try dsimp only
    rw [heldInt_is F v.1.length 1 (by omega) (by omega) (by omega), bind_some_, if_neg (by omega), if_pos rfl]

end Go.Proofs.Ytgfpbiaocokdeaa.Pure
