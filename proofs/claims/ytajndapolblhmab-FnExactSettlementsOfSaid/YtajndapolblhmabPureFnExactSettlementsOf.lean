/- The program's SettlementsOf returns what the reference's returns, for all arguments; no condition. -/
import Derived.Test.YtajndapolblhmabCFnExactSettlementsOf1
namespace Go.Proofs.Ytajndapolblhmab.Pure
open Go.RowKit Go.Proofs.Ytajndapolblhmab.P Go.Proofs.YtajndapolblhmabW.PrintWords Go.Proofs.YtajndapolblhmabW.PrintLast Go.Proofs.YtajndapolblhmabW.PrintMore
set_option linter.unusedVariables false
set_option linter.unusedSimpArgs false
theorem FnExactSettlementsOf : laws_FnExactSettlementsOf.Pure := by
  intro l hw
  have hm : l.length ≤ 9223372036854775807 := hw.1
  by_cases hb : l.length > 1048576
  · refine ⟨0, ?_⟩
    unfold laws_FnExactSettlementsOf.f laws_szLossS.f
    rw [w64 (1048576 - (l.length : Int)) (by omega) (by omega), if_pos (by omega), bind_some_, if_pos (by omega)]
  · refine ⟨2 * l.length + 600, ?_⟩
    have hl : (l.map toLoss).length = l.length := List.length_map ..
    obtain ⟨p, hp⟩ : ∃ p : List Int × Bool, (if lsValid (l.map toLoss) = true then (settleP (l.map toLoss), true) else ([], false)) = p := ⟨_, rfl⟩
    have hpl : p.1.length ≤ 24 := by
      rw [← hp]
      split
      · rw [settleP_len]; omega
      · simp
    unfold laws_FnExactSettlementsOf.f laws_szLossS.f
    rw [w64 (1048576 - (l.length : Int)) (by omega) (by omega), if_neg (by omega), bind_some_, if_neg (by omega), toLossS_is _ l (by omega) (by omega), bind_some_, specSettlements_is _ _ (by omega) (by omega), hp, bind_some_, bind_some_, implSettle_is _ _ (by omega) (by omega), hp, bind_some_, eqInt_is _ _ _ (by omega) (by omega), bind_some_, decide_eq_true rfl, if_pos rfl, bne_self_eq_false]
    simp only [laws_FnExactSettlementsOf.j0]
    rw [if_neg (by simp), toLossS_is _ l (by omega) (by omega), bind_some_, eqLossS_refl _ _ (by omega) (by omega), bind_some_, if_pos rfl, markLossS_is _ _ 1 (by omega) (by omega) (by omega), bind_some_, if_neg (by omega), eqInt_is _ _ _ (by omega) (by omega), bind_some_, decide_eq_true rfl, if_pos rfl, bne_self_eq_false]
    simp only [laws_FnExactSettlementsOf.j1]
    rw [if_neg (by simp), markInt_is _ _ 1 (by omega) (by omega) (by omega), bind_some_, heldInt_is _ _ 1 (by omega) (by omega) (by omega), bind_some_, if_neg (by omega), if_pos rfl,
      toLossS_is _ l (by omega) (by omega), bind_some_, implSettle_is _ _ (by omega) (by omega), hp, bind_some_, eqInt_is _ _ _ (by omega) (by omega), bind_some_, decide_eq_true rfl, if_pos rfl, bne_self_eq_false]
    simp only [laws_FnExactSettlementsOf.j2]
    rw [if_neg (by simp), heldInt_is _ _ 1 (by omega) (by omega) (by omega), bind_some_, if_neg (by omega), if_pos rfl]

end Go.Proofs.Ytajndapolblhmab.Pure
