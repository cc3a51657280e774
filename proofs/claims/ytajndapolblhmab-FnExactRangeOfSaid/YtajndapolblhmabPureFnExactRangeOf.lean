/- The program's RangeOf returns what the reference's returns, for all arguments; no condition. -/
import Derived.Test.YtajndapolblhmabCFnExactRangeOf3
namespace Go.Proofs.Ytajndapolblhmab.Pure
open Go.RowKit Go.Proofs.Ytajndapolblhmab.P Go.Proofs.YtajndapolblhmabW.PrintWords Go.Proofs.YtajndapolblhmabW.PrintLast Go.Proofs.YtajndapolblhmabW.PrintMore
set_option linter.unusedVariables false
set_option linter.unusedSimpArgs false
theorem FnExactRangeOf : laws_FnExactRangeOf.Pure := by
  intro cs fc st x y a b hw1 hw2 hw3 _ _ _ _
  obtain ⟨r, hr, hs⟩ := szHead_is cs fc st x y hw1.1 hw2.1 hw3.1
  by_cases h : r < 0
  · refine ⟨0, ?_⟩
    unfold laws_FnExactRangeOf.f
    rw [hr, bind_some_, if_pos h]
  · obtain ⟨h1, h2, h3⟩ := hs.resolve_left h
    have hl : (cs.map toCutter).length = cs.length := List.length_map ..
    refine ⟨cs.length + fc.length + st.length + 10, ?_⟩
    unfold laws_FnExactRangeOf.f
    rw [hr, bind_some_, if_neg h, toHead_is _ cs fc st x y h1 h2 h3 (by omega), bind_some_]
    dsimp only
    rw [specRangeOf_is _ _ fc st x y a b (by omega) h2 h3 (by omega), bind_some_, bind_some_]
    dsimp only
    rw [implRangeOf_is _ _ fc st x y a b (by omega) h2 h3 (by omega), bind_some_, if_pos rfl, bne_self_eq_false]
    simp only [laws_FnExactRangeOf.j0]
    rw [if_neg (by simp), toHead_is _ cs fc st x y h1 h2 h3 (by omega), bind_some_]
    dsimp only
    rw [eqHead_refl _ _ fc st x y (by omega) h2 h3 (by omega), bind_some_, if_pos rfl]

end Go.Proofs.Ytajndapolblhmab.Pure
