/- The program's ReadPlan returns what the reference's returns, for all arguments; no condition. -/
import Derived.Test.YtfcadpkhmkjibaaDoorCFnExactReadPlan2
import Derived.Test.YtfcadpkhmkjibaaDoorCFnExactReadPlan3
import Derived.Test.YtfcadpkhmkjibaaDoorCFnExactReadPlan0
import Derived.Test.YtfcadpkhmkjibaaDoorCFnExactReadPlan1
namespace Go.Proofs.YtfcadpkhmkjibaaDoor.Pure
open Go.RowKit Go.Proofs.YtfcadpkhmkjibaaDoor.P Go.Proofs.YtfcadpkhmkjibaaDoorW.PrintWords Go.Proofs.YtfcadpkhmkjibaaDoorW.PrintLast Go.Proofs.YtfcadpkhmkjibaaDoorW.PrintMore
set_option linter.unusedVariables false
set_option linter.unusedSimpArgs false
theorem goodPl_short {cs : List S77} {fc st : List Int} {x y : Int} {r : List S66 × Bool} {s : List UInt8} (h : GoodPl cs fc st x y r s) : shortS r.1 := by
  rcases h.1 with e | ⟨p, e, h1, _⟩
  · rw [e]
    exact ⟨by simp, by simp⟩
  · rw [e]
    have v := plOk_vals h1
    exact ⟨by have := v.pn; dsimp only; omega, fun t ht => by have := (v.pv t ht).2.2.1; omega⟩
theorem markHeadP_is (k : Nat) (cs : List S77) (fc st : List Int) (x y : Int) (hc : cs.length ≤ 1048576) (hb : fc.length ≤ 1048576) (hs : st.length ≤ 1048576) (hk : cs.length + fc.length + st.length < k) :
    laws_markHead.f k cs fc st x y 1 = some (1 + 2 * (cs.length : Int) + (fc.length : Int) + (st.length : Int), iotaCutter 1 cs.length, iota (1 + 2 * (cs.length : Int)) fc.length, iota (1 + 2 * (cs.length : Int) + (fc.length : Int)) st.length) := by
  unfold laws_markHead.f
  rw [markCutterS_is k cs 1 (by omega) (by omega) (by omega), bind_some_]
  try dsimp only
  rw [markInt_is k fc _ (by omega) (by omega) (by omega), bind_some_]
  try dsimp only
  rw [markInt_is k st _ (by omega) (by omega) (by omega), bind_some_]
theorem FnExactReadPlan : laws_FnExactReadPlan.Pure := by
  intro cs fc st x y a1 hw1 hw2 hw3 _ _ _
  obtain ⟨F, hF⟩ : ∃ F, F = 40000001 := ⟨_, rfl⟩
  obtain ⟨s, rfl⟩ : ∃ s, a1 = tx s := ⟨a1.data.toList, (tx_of a1).symm⟩
  refine ⟨F, ?_⟩
  unfold laws_FnExactReadPlan.f
  rw [tx_size]
  by_cases h0 : (s.length : Int) > 1048576
  · rw [if_pos h0]
  · obtain ⟨r, hr, hs⟩ := szHead_is cs fc st x y hw1.1 hw2.1 hw3.1
    rw [if_neg h0, hr, bind_some_]
    by_cases h : r < 0
    · rw [if_pos h]
    · obtain ⟨h1, h2, h3⟩ := hs.resolve_left h
      have hl : (cs.map toCutter).length = cs.length := List.length_map ..
      obtain ⟨q, hq, gq⟩ := specReadPlan_good F (cs.map toCutter) fc st x y (by omega) h2 h3 s (by omega) (by omega)
      obtain ⟨v, hv, gv⟩ := implReadPlan_good F (cs.map toCutter) fc st x y (by omega) h2 h3 s (by omega) (by omega)
      have e : v = q := goodPl_eq gv gq
      subst e
      have hsh := goodPl_short gv
      rw [if_neg h, toHead_is F cs fc st x y h1 h2 h3 (by omega), bind_some_]
      try dsimp only
      rw [hq, bind_some_, hv, bind_some_, eqStopS_refl F _ hsh (by have := hsh.1; omega), bind_some_, if_pos rfl, if_pos rfl, eqHead_refl F _ fc st x y (by omega) h2 h3 (by omega), bind_some_, if_pos rfl, markHeadP_is F _ fc st x y (by omega) h2 h3 (by omega), bind_some_]
      try dsimp only
      rw [if_neg (by omega), markStop_is F v.1 1 hsh ⟨by omega, by omega⟩ (by omega), bind_some_]
      try dsimp only
      rw [heldStop_is F v.1 1 hsh ⟨by omega, by omega⟩ (by omega), bind_some_, if_neg (by omega), if_pos rfl]

end Go.Proofs.YtfcadpkhmkjibaaDoor.Pure
