/- The program's BoundOf returns what the reference's returns, for all arguments; no condition. -/
import Derived.Test.YtajndapolblhmabCFnExactBoundOf2
namespace Go.Proofs.Ytajndapolblhmab.Pure
open Go.RowKit Go.Proofs.Ytajndapolblhmab.P Go.Proofs.YtajndapolblhmabW.PrintWords Go.Proofs.YtajndapolblhmabW.PrintLast Go.Proofs.YtajndapolblhmabW.PrintMore
set_option linter.unusedVariables false
set_option linter.unusedSimpArgs false
theorem FnExactBoundOf : laws_FnExactBoundOf.Pure := by
  intro cs fc st x y hw1 hw2 hw3 _ _
  obtain ⟨r, hr, hs⟩ := szHead_is cs fc st x y hw1.1 hw2.1 hw3.1
  by_cases h : r < 0
  · refine ⟨0, ?_⟩
    unfold laws_FnExactBoundOf.f
    rw [hr, bind_some_, if_pos h]
  · obtain ⟨h1, h2, h3⟩ := hs.resolve_left h
    have hl : (cs.map toCutter).length = cs.length := List.length_map ..
    refine ⟨cs.length + fc.length + st.length + 1010, ?_⟩
    unfold laws_FnExactBoundOf.f
    rw [hr, bind_some_, if_neg h, toHead_is _ cs fc st x y h1 h2 h3 (by omega), bind_some_]
    try dsimp only
    rw [specBoundOf_is _ _ fc st x y (by omega) h2 h3 (by omega), bind_some_, bind_some_]
    try dsimp only
    rw [implBoundOf_is _ _ fc st x y (by omega) h2 h3 (by omega), bind_some_, if_pos rfl, bne_self_eq_false]
    simp only [laws_FnExactBoundOf.j0]
    rw [if_neg (by simp), toHead_is _ cs fc st x y h1 h2 h3 (by omega), bind_some_]
    try dsimp only
    rw [eqHead_refl _ _ fc st x y (by omega) h2 h3 (by omega), bind_some_, if_pos rfl]

end Go.Proofs.Ytajndapolblhmab.Pure
