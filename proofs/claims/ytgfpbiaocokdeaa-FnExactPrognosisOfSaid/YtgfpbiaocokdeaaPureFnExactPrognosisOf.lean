/- The program's PrognosisOf returns what the reference's returns, for all arguments; no condition. -/
import Derived.Test.YtgfpbiaocokdeaaCFnExactPrognosisOf5
namespace Go.Proofs.Ytgfpbiaocokdeaa.Pure
open Go.RowKit Go.Proofs.Ytgfpbiaocokdeaa.P Go.Proofs.YtgfpbiaocokdeaaW.PrintWords Go.Proofs.YtgfpbiaocokdeaaW.PrintLast Go.Proofs.YtgfpbiaocokdeaaW.PrintMore
set_option linter.unusedVariables false
set_option linter.unusedSimpArgs false
theorem FnExactPrognosisOf : laws_FnExactPrognosisOf.Pure := by
  intro ds hs a b u v cs hw1 hw2 _ _ _ _ hw3
  obtain ⟨F, hF⟩ : ∃ F, F = 20000000 := ⟨_, rfl⟩
  obtain ⟨q, hq, hq2, hs2⟩ := szGround_is F ds hs hw1.1 hw2.1 (fun s hs => (hw2.2 s hs).2.1) (by omega)
  refine ⟨F, ?_⟩
  unfold laws_FnExactPrognosisOf.f
  rw [hq, bind_some_]
  by_cases c : q < 0
  · rw [if_pos c]
  · obtain ⟨h1, h2, h3⟩ := hs2.resolve_left c
    obtain ⟨q2, hq3, hs4⟩ := szAxis_is a b u v cs q hw3.1 (by omega) hq2
    rw [if_neg c, hq3, bind_some_]
    by_cases c2 : q2 < 0
    · rw [if_pos c2]
    · have h4 := hs4.resolve_left c2
      have hsh := toHole_short h2 h3
      have h5 : (cs.map toCurve).length ≤ 1048576 := by rw [List.length_map]; exact h4
      obtain ⟨bm, q5, q6, q7⟩ := markGround_up F ds (hs.map toHole) 1 ⟨by omega, by omega⟩ h1 hsh (by omega)
      obtain ⟨bx, q8, q9⟩ := markAxis_ok F a b u v (cs.map toCurve) bm.1 ⟨q6, q7⟩ h5 (by omega)
      obtain ⟨w, hv⟩ : ∃ w, alongP (prognosisOf ds (hs.map toHole)) ds (hs.map toHole) ⟨a, b, u, v⟩ (cs.map toCurve) = w := ⟨_, rfl⟩
      have hvl : w.1.length ≤ 1048576 := by
        rw [← hv]
        unfold alongP
        split
        · rename_i hc
          rw [Bool.and_eq_true] at hc
          have := posesOf_len hc.2
          unfold prognosisOf; rw [alongGo_len]; omega
        · simp
      rw [if_neg c2, toGround_is F ds hs h1 h2 h3 (by omega), bind_some_]
      try dsimp only
      rw [toAxis_is F a b u v cs h4 (by omega), bind_some_]
      try dsimp only
      rw [specPrognosis_is F ds _ a b u v _ h1 hsh h5 (by omega), bind_some_, implPrognosis_is F ds _ a b u v _ hsh h5 (by omega), bind_some_, hv, eqInt_is F _ _ (by omega) (by omega), bind_some_, if_pos (decide_eq_true rfl), if_pos rfl, eqGround_refl F ds _ h1 hsh (by omega), bind_some_, if_pos rfl, eqAxis_refl F a b u v _ h5 (by omega), bind_some_, if_pos rfl, q5, bind_some_, q8, bind_some_, if_neg (by omega), markInt_is F w.1 1 (by omega) (by omega) (by omega), bind_some_]
      try dsimp only
      rw [heldInt_is F w.1.length 1 (by omega) (by omega) (by omega), bind_some_, if_neg (by omega), if_pos rfl]

end Go.Proofs.Ytgfpbiaocokdeaa.Pure
