/- The program's ShortDays returns what the reference's returns, for all arguments; no condition. -/
import Derived.Test.YtajndapolblhmabCFnExactShortDays2
import Derived.Test.YtajndapolblhmabCFnExactShortDays0
import Derived.Test.YtajndapolblhmabCFnExactShortDays1
namespace Go.Proofs.Ytajndapolblhmab.Pure
open Go.RowKit Go.Proofs.Ytajndapolblhmab.P Go.Proofs.YtajndapolblhmabW.PrintWords Go.Proofs.YtajndapolblhmabW.PrintLast Go.Proofs.YtajndapolblhmabW.PrintMore
set_option linter.unusedVariables false
set_option linter.unusedSimpArgs false
theorem FnExactShortDays : laws_FnExactShortDays.Pure := by
  intro a b c l _ _ _ hw
  have hm : l.length ≤ 9223372036854775807 := hw.1
  by_cases hb : l.length > 1048576
  · refine ⟨0, ?_⟩
    unfold laws_FnExactShortDays.f laws_szOrderS.f
    rw [w64 (1048576 - (l.length : Int)) (by omega) (by omega), if_pos (by omega), bind_some_, if_pos (by omega)]
  · refine ⟨2 * l.length + 400, ?_⟩
    have hl : (l.map toOrder).length = l.length := List.length_map ..
    obtain ⟨p, hp⟩ : ∃ p : List Int × Bool, (if wkOk a b c = true ∧ orValid (l.map toOrder) = true then (shortOf a b c 0 (l.map toOrder), true) else ([], false)) = p := ⟨_, rfl⟩
    have hpl : p.1.length ≤ l.length := by
      rw [← hp]
      split
      · have := shortGo_len a b c 0 (l.map toOrder) 0
        rw [hl] at this
        exact this
      · simp
    unfold laws_FnExactShortDays.f laws_szOrderS.f laws_toWorks.f
    rw [w64 (1048576 - (l.length : Int)) (by omega) (by omega), if_neg (by omega), bind_some_, if_neg (by omega), bind_some_, toOrderS_is _ l (by omega) (by omega), bind_some_, specShortDays_is _ _ _ _ _ (by omega) (by omega), hp, bind_some_, bind_some_, bind_some_, implShortDays_is _ _ _ _ _ (by omega) (by omega), hp, bind_some_, eqInt_is _ _ _ (by omega) (by omega), bind_some_, decide_eq_true rfl, if_pos rfl, bne_self_eq_false]
    simp only [laws_FnExactShortDays.j0]
    rw [if_neg (by simp), toOrderS_is _ l (by omega) (by omega), bind_some_, eqOrderS_refl _ _ (by omega) (by omega), bind_some_, if_pos rfl, markOrderS_is _ _ 1 (by omega) (by omega) (by omega), bind_some_, if_neg (by omega), eqInt_is _ _ _ (by omega) (by omega), bind_some_, decide_eq_true rfl, if_pos rfl, bne_self_eq_false]
    simp only [laws_FnExactShortDays.j1, laws_toWorks.f]
    rw [if_neg (by simp), markInt_is _ _ 1 (by omega) (by omega) (by omega), bind_some_, heldInt_is _ _ 1 (by omega) (by omega) (by omega), bind_some_, if_neg (by omega), if_pos rfl, bind_some_,
      toOrderS_is _ l (by omega) (by omega), bind_some_, implShortDays_is _ _ _ _ _ (by omega) (by omega), hp, bind_some_, eqInt_is _ _ _ (by omega) (by omega), bind_some_, decide_eq_true rfl, if_pos rfl, bne_self_eq_false]
    simp only [laws_FnExactShortDays.j2]
    rw [if_neg (by simp), heldInt_is _ _ 1 (by omega) (by omega) (by omega), bind_some_, if_neg (by omega), if_pos rfl]

end Go.Proofs.Ytajndapolblhmab.Pure
