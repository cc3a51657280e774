/- The program's ReadGround returns what the reference's returns, for all arguments; no condition. -/
import Derived.Test.YtgfpbiaocokdeaaDoorCFnExactReadGround4
import Derived.Test.YtgfpbiaocokdeaaDoorCFnExactReadGround0
namespace Go.Proofs.YtgfpbiaocokdeaaDoor.Pure
open Go.RowKit Go.Proofs.YtgfpbiaocokdeaaDoor.P Go.Proofs.YtgfpbiaocokdeaaDoorW.PrintWords Go.Proofs.YtgfpbiaocokdeaaDoorW.PrintLast Go.Proofs.YtgfpbiaocokdeaaDoorW.PrintMore
set_option linter.unusedVariables false
set_option linter.unusedSimpArgs false
theorem goodG_len {r : List Int × List S49 × Bool} {s : List UInt8} (h : GoodG r s) : r.1.length ≤ 4 ∧ shortH r.2.1 := by
  rcases h.1 with e | ⟨ds, hs, e, h1, _⟩
  · rw [e]
    exact ⟨Nat.zero_le _, Nat.zero_le _, fun t ht => by simp [zG] at ht⟩
  · rw [e]
    have v := grOk_vals h1
    exact ⟨v.dn.2, by have := v.hn.2; dsimp only; omega, fun t ht => by have := (v.hv t ht).2.1; have := v.dn.2; omega⟩
theorem FnExactReadGround : laws_FnExactReadGround.Pure := by
  intro a0 _
  obtain ⟨F, hF⟩ : ∃ F, F = 40000000 := ⟨_, rfl⟩
  refine ⟨F, ?_⟩
  unfold laws_FnExactReadGround.f
  obtain ⟨s, rfl⟩ : ∃ s, a0 = tx s := ⟨a0.data.toList, (tx_of a0).symm⟩
  rw [tx_size]
  by_cases h : (s.length : Int) > 1048576
  · rw [if_pos h]
  · obtain ⟨q, hq, gq⟩ := specReadGround_good F s (by omega) (by omega)
    obtain ⟨r, hr, gr⟩ := implReadGround_good F s (by omega) (by omega)
    have e : r = q := goodG_eq gr gq
    subst e
    obtain ⟨n1, n2⟩ := goodG_len gr
    obtain ⟨b, hb, hb0, hh⟩ := markedGround F r.1 r.2.1 (by omega) n2 (by omega)
    have hheld := hh F (by omega)
    rw [if_neg h, hq, bind_some_, hr, bind_some_, eqGround_refl F r.1 r.2.1 (by omega) n2 (by omega), bind_some_, if_pos rfl, if_pos rfl, hb, bind_some_, hheld, bind_some_, if_neg (by omega), if_pos rfl]

end Go.Proofs.YtgfpbiaocokdeaaDoor.Pure
