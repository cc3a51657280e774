/- The program's StretchesAt returns what the reference's returns, for all arguments; no condition. -/
import Derived.Test.YtajndapolblhmaaLemCore
import Derived.Test.YtajndapolblhmaaLemEqInt
import Derived.Test.YtajndapolblhmaaLemImplSettled
import Derived.Test.YtajndapolblhmaaLemImplStretch
import Derived.Test.YtajndapolblhmaaLemIn
import Derived.Test.YtajndapolblhmaaLemMarkInt
import Derived.Test.YtajndapolblhmaaLemMarkSS
import Derived.Test.YtajndapolblhmaaLemSettled
import Derived.Test.YtajndapolblhmaaLemSpecSettled
import Derived.Test.YtajndapolblhmaaLemSpecStretch
import Derived.Test.YtajndapolblhmaaLemStretch
import Derived.Test.YtajndapolblhmaaLemToInt
import Derived.Test.YtajndapolblhmaaLemWithin
import Derived.Test.YtajndapolblhmaaPx40
import Derived.Test.YtajndapolblhmaaPx41
namespace Go.Proofs.Ytajndapolblhmaa.Pure
open Go.RowKit Go.Proofs.Ytajndapolblhmaa.P Go.Proofs.YtajndapolblhmaaW.PrintWords Go.Proofs.YtajndapolblhmaaW.PrintLast Go.Proofs.YtajndapolblhmaaW.PrintMore
set_option linter.unusedVariables false
set_option linter.unusedSimpArgs false
theorem strBoth (l : List Int) (w : Int) (hb : l.length ≤ 1048576) : ∃ rs : List (List Int), ∃ ok : Bool, rs.length ≤ 24 ∧ (∀ r ∈ rs, r.length = 2) ∧ ∀ k : Nat, l.length + 100 ≤ k → spec_StretchesAt.f k l w = some (rs, ok) ∧ impl_StretchesAt.f k l w = some (rs, ok) := by
  by_cases hl : stOk l = true
  · have h24 := stOk_len hl
    obtain ⟨rs, h1, h2, hlen⟩ := strGo_ok l w l.length 0 [] (strInv_nil l w)
    by_cases hw : 1 ≤ w ∧ w ≤ 2000000
    · refine ⟨rs.map strRow, true, by rw [List.length_map]; rw [h24] at hlen; simpa using hlen, ?_, ?_⟩
      · intro r hr
        obtain ⟨q, _, rfl⟩ := List.mem_map.mp hr
        rfl
      · intro k hk
        obtain ⟨k, rfl⟩ : ∃ m, k = m + 1 := ⟨k - 1, by omega⟩
        have h3 := implStr_loop l (by omega) w l.length k 0 [] (by omega) (by omega) (by simp) (strInv_nil l w)
        have h4 := specStr_loop l (by omega) w l.length k 0 [] (by omega) (by omega) (by simp) (strInv_nil l w)
        constructor
        · unfold spec_StretchesAt.f
          rw [specSettled_is _ l (by omega) (by omega), bind_some_, if_pos hl, in_is, bind_some_, decide_eq_true hw]
          simp only [spec_StretchesAt.j0]
          rw [if_neg (by simp), ← h1]
          exact h4
        · unfold impl_StretchesAt.f
          rw [implSettled_is, bind_some_, if_pos hl, within_is, bind_some_, decide_eq_true hw]
          simp only [impl_StretchesAt.j0]
          rw [if_neg (by simp), ← h1]
          exact h3
    · refine ⟨[], false, by simp, by simp, ?_⟩
      intro k hk
      obtain ⟨k, rfl⟩ : ∃ m, k = m + 1 := ⟨k - 1, by omega⟩
      constructor
      · unfold spec_StretchesAt.f
        rw [specSettled_is _ l (by omega) (by omega), bind_some_, if_pos hl, in_is, bind_some_, decide_eq_false hw]
        simp only [spec_StretchesAt.j0]
        rw [if_pos (by simp)]
      · unfold impl_StretchesAt.f
        rw [implSettled_is, bind_some_, if_pos hl, within_is, bind_some_, decide_eq_false hw]
        simp only [impl_StretchesAt.j0]
        rw [if_pos (by simp)]
  · refine ⟨[], false, by simp, by simp, ?_⟩
    intro k hk
    obtain ⟨k, rfl⟩ : ∃ m, k = m + 1 := ⟨k - 1, by omega⟩
    constructor
    · unfold spec_StretchesAt.f
      rw [specSettled_is _ l (by omega) (by omega), bind_some_, if_neg hl]
      simp only [spec_StretchesAt.j0]
      simp
    · unfold impl_StretchesAt.f
      rw [implSettled_is, bind_some_, if_neg hl]
      simp only [impl_StretchesAt.j0]
      simp
theorem cntSS_two : ∀ rs : List (List Int), (∀ r ∈ rs, r.length = 2) → cntSS rs = 2 * rs.length
  | [], _ => rfl
  | r :: rs, h => by
    have h1 := h r (by simp)
    have h2 := cntSS_two rs (fun q hq => h q (by simp [hq]))
    simp only [cntSS, List.length_cons]
    omega
theorem FnExactStretchesAt : laws_FnExactStretchesAt.Pure := by
  intro l w hw _
  by_cases h : (l.length : Int) > 1048576
  · refine ⟨0, ?_⟩
    unfold laws_FnExactStretchesAt.f
    rw [if_pos h]
  · obtain ⟨rs, ok, hr1, hr2, hr3⟩ := strBoth l w (by omega)
    have hc := cntSS_two rs hr2
    obtain ⟨F, hF⟩ : ∃ F, F = 20000000 := ⟨_, rfl⟩
    obtain ⟨q1, q2⟩ := hr3 F (by omega)
    obtain ⟨q3, q4⟩ := markSS_is F rs (by omega) (by omega) (by omega)
    refine ⟨F, ?_⟩
    unfold laws_FnExactStretchesAt.f
    rw [if_neg h, toInt_is F l (by omega) (by omega), bind_some_, q1, bind_some_, q2, bind_some_]
    try dsimp only
    rw [eqSS_refl F rs (by omega) (fun r hr => by have := hr2 r hr; omega) (by omega), bind_some_, if_pos rfl, if_pos rfl, eqInt_is F l l (by omega) (by omega), bind_some_, if_pos (decide_eq_true rfl), markInt_is F l 1 (by omega) (by omega) (by omega), bind_some_]
    try dsimp only
    rw [if_neg (by omega), q3, bind_some_]
    try dsimp only
    rw [q4, bind_some_, if_neg (by omega), if_pos rfl]

end Go.Proofs.Ytajndapolblhmaa.Pure
