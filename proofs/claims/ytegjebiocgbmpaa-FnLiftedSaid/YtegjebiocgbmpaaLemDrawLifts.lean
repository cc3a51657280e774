/- The needs and the plan that the law draws. -/
import Derived.Test.YtegjebiocgbmpaaLemCore
import Derived.Test.YtegjebiocgbmpaaLemDraw
import Derived.Test.YtegjebiocgbmpaaLemLifts
import Derived.Test.YtegjebiocgbmpaaLemRow
import Derived.Test.YtegjebiocgbmpaaLemSpecLifts
import Derived.Test.YtegjebiocgbmpaaPx2
import Derived.Test.YtegjebiocgbmpaaPx3
namespace Go.Proofs.Ytegjebiocgbmpaa.P
open Go.RowKit Go.Proofs.Ytegjebiocgbmpaa.P Go.Proofs.YtegjebiocgbmpaaW.PrintWords Go.Proofs.YtegjebiocgbmpaaW.PrintLast Go.Proofs.YtegjebiocgbmpaaW.PrintMore
set_option linter.unusedVariables false
set_option linter.unusedSimpArgs false
theorem b10Nd_l0 (c : List Int) (hc : ∀ x ∈ c, (Lit.int .u8 x).wf = true) : ∀ (d k : Nat) (acc : List Int) (s e : Int), d < k → d ≤ 6 → (0 ≤ s ∧ s ≤ 1000 + 100 * (7 - (d : Int))) → (∀ v ∈ acc, 0 ≤ v ∧ v ≤ 12) → acc.length + d ≤ 7 → ∃ ns, spec_B10Needs.l0 k acc (d : Int) c s e = some ns ∧ ns.length = acc.length + d ∧ ∀ v ∈ ns, 0 ≤ v ∧ v ≤ 12 := by
  intro d
  induction d with
  | zero =>
    intro k acc s e hk _ hs ha hl
    obtain ⟨k, rfl⟩ : ∃ m, k = m + 1 := ⟨k - 1, by omega⟩
    simp only [spec_B10Needs.l0]
    rw [if_neg (by omega)]
    exact ⟨acc, rfl, rfl, ha⟩
  | succ d ih =>
    intro k acc s e hk hd hs ha hl
    obtain ⟨k, rfl⟩ : ∃ m, k = m + 1 := ⟨k - 1, by omega⟩
    simp only [spec_B10Needs.l0]
    obtain ⟨r, s', e', h, hr, hs'⟩ := pick_in c hc s e 13 (by omega) (by omega)
    rw [if_pos (by omega), h, bind_some_]
    dsimp only
    rw [if_pos (by omega), show wrap64 (((d + 1 : Nat) : Int) - 1) = (d : Int) by unfold wrap64; omega]
    obtain ⟨ns, h1, h2, h3⟩ := ih k (acc ++ [r]) s' e' (by omega) (by omega) (by omega) (fun v hv => by
      rcases List.mem_append.mp hv with q | q
      · exact ha v q
      · rw [List.mem_singleton.mp q]; omega) (by rw [List.length_append, List.length_singleton]; omega)
    exact ⟨ns, h1, by rw [h2, List.length_append, List.length_singleton]; omega, h3⟩
theorem b10Nd_is (c : List Int) (hc : ∀ x ∈ c, (Lit.int .u8 x).wf = true) (k : Nat) (hk : 10 < k) : ∃ ns, spec_B10Needs.f k c = some ns ∧ rowOk 12 ns = true := by
  unfold spec_B10Needs.f spec_l00From.f
  rw [bind_some_]
  dsimp only
  obtain ⟨r, s1, e1, h, hr, hs1⟩ := pick_in c hc 0 0 13 (by omega) (by omega)
  rw [h, bind_some_]
  dsimp only
  obtain ⟨q, s2, e2, h', hq, hs2⟩ := pick_in c hc s1 e1 7 (by omega) (by omega)
  rw [h', bind_some_]
  dsimp only
  obtain ⟨ns, h1, h2, h3⟩ := b10Nd_l0 c hc q.toNat k [r] s2 e2 (by omega) (by omega) (by omega) (fun v hv => by rw [List.mem_singleton.mp hv]; omega) (by rw [List.length_singleton]; omega)
  rw [show ((q.toNat : Nat) : Int) = q by omega] at h1
  refine ⟨ns, h1, ?_⟩
  unfold rowOk
  rw [List.length_singleton] at h2
  rw [Bool.and_eq_true, decide_eq_true_eq, List.all_eq_true]
  exact ⟨by omega, fun v hv => decide_eq_true (h3 v hv)⟩
theorem b10Pl_l1 (ns : List Int) (hn : ns.length ≤ 12) : ∀ (d k : Nat) (us : List Int), 20 * d + 40 < k → d ≤ 40 → us.length = ns.length → (∀ (k : Nat) (us : List Int), us.length = ns.length → 20 < k → spec_l07Lifts.f k us = some (liftsOf us)) → ∃ r, spec_B10Plan.l1 k ns us (((40 - d : Nat)) : Int) = some r ∧ r.length = ns.length := by
  intro d
  induction d with
  | zero =>
    intro k us hk _ hu _
    obtain ⟨k, rfl⟩ : ∃ m, k = m + 1 := ⟨k - 1, by omega⟩
    simp only [spec_B10Plan.l1]
    rw [if_neg (by omega)]
    exact ⟨us, rfl, hu⟩
  | succ d ih =>
    intro k us hk hd hu hL
    obtain ⟨k, rfl⟩ : ∃ m, k = m + 1 := ⟨k - 1, by omega⟩
    simp only [spec_B10Plan.l1]
    rw [if_pos (by omega), hL k us hu (by omega), bind_some_]
    have inner : ∀ (e k i : Nat), i + e = ns.length → e + 20 * d + 41 < k → ∃ r, spec_B10Plan.l2 k ns us (((40 - (d + 1) : Nat)) : Int) (liftsOf us) (i : Int) = some r ∧ r.length = ns.length := by
      intro e
      induction e with
      | zero =>
        intro k i hi hk
        obtain ⟨k, rfl⟩ : ∃ m, k = m + 1 := ⟨k - 1, by omega⟩
        simp only [spec_B10Plan.l2]
        rw [if_neg (by omega), w64s _ (by omega), show 40 - (d + 1) + 1 = 40 - d by omega]
        exact ih k us (by omega) (by omega) hu hL
      | succ e ih2 =>
        intro k i hi hk
        obtain ⟨k, rfl⟩ : ∃ m, k = m + 1 := ⟨k - 1, by omega⟩
        simp only [spec_B10Plan.l2]
        rw [if_pos (by omega), if_pos (by omega), if_pos (by rw [liftsOf_len]; omega)]
        by_cases c : rd (liftsOf us) (i : Int) < rd ns (i : Int)
        · rw [if_pos c, if_pos (by omega)]
          by_cases q : rd us (i : Int) < 6
          · rw [if_pos q, w64s _ (by omega), show 40 - (d + 1) + 1 = 40 - d by omega]
            exact ih k _ (by omega) (by omega) (by rw [List.length_set]; exact hu) hL
          · rw [if_neg q, w64s i (by omega)]
            exact ih2 k (i + 1) (by omega) (by omega)
        · rw [if_neg c, w64s i (by omega)]
          exact ih2 k (i + 1) (by omega) (by omega)
    have := inner ns.length k 0 (by omega) (by omega)
    rw [show ((0 : Nat) : Int) = 0 from rfl] at this
    exact this
theorem b10Pl_l0 (c : List Int) (hc : ∀ x ∈ c, (Lit.int .u8 x).wf = true) (ns : List Int) (hn : ns.length ≤ 12) : ∀ (d k : Nat) (us : List Int) (s e : Int), us.length + d = ns.length → d + 1000 < k → (0 ≤ s ∧ s ≤ 10 * (us.length : Int)) → ∃ r, spec_B10Plan.l0 k ns us (us.length : Int) c s e = some r ∧ r.length = ns.length := by
  intro d
  induction d with
  | zero =>
    intro k us s e hu hk hs
    obtain ⟨k, rfl⟩ : ∃ m, k = m + 1 := ⟨k - 1, by omega⟩
    simp only [spec_B10Plan.l0]
    rw [if_neg (by omega)]
    exact b10Pl_l1 ns hn 40 k us (by omega) (by omega) (by omega) (fun k us hu hk => specLifts_is k us (by omega) (by omega))
  | succ d ih =>
    intro k us s e hu hk hs
    obtain ⟨k, rfl⟩ : ∃ m, k = m + 1 := ⟨k - 1, by omega⟩
    simp only [spec_B10Plan.l0]
    obtain ⟨r, s', e', h, hr, hs'⟩ := pick_in c hc s e 7 (by omega) (by omega)
    rw [if_pos (by omega), h, bind_some_]
    dsimp only
    rw [if_pos (by omega), w64s _ (by omega)]
    have := ih k (us ++ [r]) s' e' (by rw [List.length_append, List.length_singleton]; omega) (by omega) (by rw [List.length_append, List.length_singleton]; omega)
    rw [List.length_append, List.length_singleton] at this
    exact this
theorem b10Pl_is (c : List Int) (hc : ∀ x ∈ c, (Lit.int .u8 x).wf = true) (ns : List Int) (hn : ns.length ≤ 12) (k : Nat) (hk : 1100 < k) : ∃ r, spec_B10Plan.f k c ns = some r ∧ r.length = ns.length := by
  unfold spec_B10Plan.f spec_l00From.f
  rw [bind_some_]
  dsimp only
  exact b10Pl_l0 c hc ns hn ns.length k [] 0 0 (by simp) (by omega) (by simp)

end Go.Proofs.Ytegjebiocgbmpaa.P
