/- A number drawn from an input's bytes lies below its bound. -/
import Derived.Test.YtegjebiocgbmpaaLemCore
import Derived.Test.YtegjebiocgbmpaaPx2
namespace Go.Proofs.Ytegjebiocgbmpaa.P
open Go.RowKit Go.Proofs.Ytegjebiocgbmpaa.P Go.Proofs.YtegjebiocgbmpaaW.PrintWords Go.Proofs.YtegjebiocgbmpaaW.PrintLast Go.Proofs.YtegjebiocgbmpaaW.PrintMore
set_option linter.unusedVariables false
set_option linter.unusedSimpArgs false
theorem u64_in (n : Int) : 0 ≤ IntKind.u64.wrap n ∧ IntKind.u64.wrap n < 18446744073709551616 := by
  simp only [IntKind.wrap, IntKind.bits, IntKind.signed]
  simp
  omega
theorem wraps_u64 (n : Int) (h₀ : 0 ≤ n) (h₁ : n < 2 ^ 64) : IntKind.u64.wrap n = n := by
  simp only [IntKind.wrap, IntKind.bits, IntKind.signed]
  simp
  omega
theorem u64_and255 (x : Int) (h₀ : 0 ≤ x) (h₁ : x < 18446744073709551616) : bits .and .u64 x 255 = x % 256 := bits_mask .u64 64 (by decide) wraps_u64 8 (by decide) x h₀ (by omega)
theorem low_in (n : Int) : 0 ≤ wrap64 (Go.bits .and .u64 (IntKind.u64.wrap n / 1099511627776) 255) ∧ wrap64 (Go.bits .and .u64 (IntKind.u64.wrap n / 1099511627776) 255) ≤ 255 := by
  have h := u64_in n
  have h2 : 0 ≤ IntKind.u64.wrap n / 1099511627776 ∧ IntKind.u64.wrap n / 1099511627776 < 18446744073709551616 := by omega
  rw [u64_and255 _ h2.1 h2.2, w64 _ (by omega) (by omega)]
  omega
theorem next_in (l : List Int) (hl : ∀ x ∈ l, (Lit.int .u8 x).wf = true) (s e : Int) (hs : 0 ≤ s ∧ s ≤ 1000000000000) : ∃ r e', spec_l00Src_next.f l s e = some (r, s + 1, e') ∧ 0 ≤ r ∧ r ≤ 255 := by
  unfold spec_l00Src_next.f
  rw [w64 (s + 1) (by omega) (by omega)]
  by_cases h1 : s < (l.length : Int)
  · obtain ⟨j, rfl⟩ : ∃ j : Nat, s = j := ⟨s.toNat, by omega⟩
    have hr := wfu8 (hl _ (List.getElem_mem (show j < l.length by omega)))
    rw [if_pos h1, if_pos (by omega), if_pos (by omega), rd_at l j (by omega), w64 _ (by omega) (by omega)]
    exact ⟨_, _, rfl, hr.1, hr.2⟩
  · rw [if_neg h1]
    by_cases h2 : s + 1 ≤ (l.length : Int)
    · omega
    · rw [if_neg h2]
      exact ⟨_, _, rfl, (low_in _).1, (low_in _).2⟩
theorem pick_in (l : List Int) (hl : ∀ x ∈ l, (Lit.int .u8 x).wf = true) (s e n : Int) (hs : 0 ≤ s ∧ s ≤ 900000000000) (hn : 1 ≤ n ∧ n ≤ 1000000) : ∃ r s' e', spec_l00Src_pick.f l s e n = some (r, s', e') ∧ (0 ≤ r ∧ r < n) ∧ (s ≤ s' ∧ s' ≤ s + 2) := by
  unfold spec_l00Src_pick.f
  by_cases h1 : n ≤ 1
  · rw [if_pos h1]
    exact ⟨_, _, _, rfl, by omega, by omega⟩
  · rw [if_neg h1]
    obtain ⟨r, e1, h, r1, r2⟩ := next_in l hl s e (by omega)
    rw [h, bind_some_]
    by_cases h2 : n > 200
    · obtain ⟨q, e2, h', q1, q2⟩ := next_in l hl (s + 1) e1 (by omega)
      rw [if_pos h2, h', bind_some_, if_neg (by omega), w64 (r * 256) (by omega) (by omega), w64 (r * 256 + q) (by omega) (by omega)]
      exact ⟨_, _, _, rfl, ⟨Int.tmod_nonneg _ (by omega), Int.tmod_lt_of_pos _ (by omega)⟩, by dsimp only; omega⟩
    · rw [if_neg h2, if_neg (by omega)]
      exact ⟨_, _, _, rfl, ⟨Int.tmod_nonneg _ r1, Int.tmod_lt_of_pos _ (by omega)⟩, by dsimp only; omega⟩

end Go.Proofs.Ytegjebiocgbmpaa.P
