/- The program's HeadText returns what the reference's returns, for all arguments; no condition. -/
import Derived.Test.YtfcadpkhmkjibaaDoorCFnExactHeadText2
import Derived.Test.YtfcadpkhmkjibaaDoorCFnExactHeadText3
namespace Go.Proofs.YtfcadpkhmkjibaaDoor.Pure
open Go.RowKit Go.Proofs.YtfcadpkhmkjibaaDoor.P Go.Proofs.YtfcadpkhmkjibaaDoorW.PrintWords Go.Proofs.YtfcadpkhmkjibaaDoorW.PrintLast Go.Proofs.YtfcadpkhmkjibaaDoorW.PrintMore
set_option linter.unusedVariables false
set_option linter.unusedSimpArgs false
theorem FnExactHeadText : laws_FnExactHeadText.Pure := by
  intro cs fc st x y hw1 hw2 hw3 hw4 hw5
  obtain ⟨r, hr, hs⟩ := szHead_is cs fc st x y hw1.1 hw2.1 hw3.1
  by_cases h : r < 0
  · refine ⟨0, ?_⟩
    unfold laws_FnExactHeadText.f
    rw [hr, bind_some_, if_pos h]
  · obtain ⟨h1, h2, h3⟩ := hs.resolve_left h
    have hl : (cs.map toCutter).length = cs.length := List.length_map ..
    have c1 : C64 (cs.map toCutter) := toCutter_64 hw1
    have c2 : I64s fc := fun z hz => wf64 (hw2.2 z hz)
    have c3 : I64s st := fun z hz => wf64 (hw3.2 z hz)
    have c4 := wf64 hw4
    have c5 := wf64 hw5
    refine ⟨cs.length + fc.length + st.length + 200, ?_⟩
    unfold laws_FnExactHeadText.f
    rw [hr, bind_some_, if_neg h, toHead_is _ cs fc st x y h1 h2 h3 (by omega), bind_some_]
    try dsimp only
    rw [specHeadT_is _ _ fc st x y (by omega) h2 h3 c1 c2 c3 c4 c5 (by omega), bind_some_, bind_some_]
    try dsimp only
    rw [implHeadT_is _ _ fc st x y (by omega) h2 h3 c1 c2 c3 c4 c5 (by omega), bind_some_, if_pos rfl, bne_self_eq_false]
    simp only [laws_FnExactHeadText.j0]
    rw [if_neg (by simp), toHead_is _ cs fc st x y h1 h2 h3 (by omega), bind_some_]
    try dsimp only
    rw [eqHead_refl _ _ fc st x y (by omega) h2 h3 (by omega), bind_some_, if_pos rfl]

end Go.Proofs.YtfcadpkhmkjibaaDoor.Pure
