/- What the claim of FnWorn bears, part 4: functions of the program as plain Lean functions, with proofs that the code comes to their answers, and lemmas on them. -/
import Derived.Test.YtajndapolblhmabCFnWorn3
import Derived.Test.YtajndapolblhmabCFnWorn0
import Derived.Test.YtajndapolblhmabCFnWorn1
import Derived.Test.YtajndapolblhmabCFnWorn2
/- What a law draws is a plan of its head. -/
namespace Go.Proofs.Ytajndapolblhmab.P
open Go.RowKit Go.Proofs.Ytajndapolblhmab.P Go.Proofs.YtajndapolblhmabW.PrintWords Go.Proofs.YtajndapolblhmabW.PrintLast Go.Proofs.YtajndapolblhmabW.PrintMore
set_option linter.unusedVariables false
set_option linter.unusedSimpArgs false
def pr (n : Nat) (st : List Int) (p : List S94) (i : Nat) : Prop :=
  (∀ j : Nat, j < p.length → ((rd_T94 p (j : Int)).f0 ∈ st ∧ (rd_T94 p (j : Int)).f1.length ≠ 0 ∧ rises (rd_T94 p (j : Int)).f1 0 ((n : Int) - 1) = true ∧ (rd_T94 p (j : Int)).f1.length ≤ 1048576) ∧ ∃ q : Nat, q < i ∧ (rd_T94 p (j : Int)).f0 = rd st (q : Int)) ∧
  (∀ j : Nat, j + 1 < p.length → (rd_T94 p (j : Int)).f0 < (rd_T94 p ((j + 1 : Nat) : Int)).f0)
theorem pr_nil (n : Nat) (st : List Int) (i : Nat) : pr n st [] i := ⟨fun j h => by simp at h, fun j h => by simp at h⟩
theorem pr_up {n : Nat} {st : List Int} {p : List S94} {i : Nat} (h : pr n st p i) : pr n st p (i + 1) := ⟨fun j hj => by
  obtain ⟨a, q, b, c⟩ := h.1 j hj
  exact ⟨a, q, by omega, c⟩, h.2⟩
theorem rdStop_app (l : List S94) (g : S94) (i : Nat) (hi : i < (l ++ [g]).length) : rd_T94 (l ++ [g]) i = if i < l.length then rd_T94 l i else g := by
  rw [rdStop_at _ i hi]
  by_cases h : i < l.length
  · rw [if_pos h, List.getElem_append_left h, rdStop_at l i h]
  · rw [if_neg h, List.getElem_append_right (by omega)]
    simp
theorem pr_app {n : Nat} {st : List Int} {lo hi : Int} (hst : rz st lo hi) {p : List S94} {i : Nat} (h : pr n st p i) (hi2 : i < st.length) (ch : List Int) (h1 : ch.length ≠ 0) (h2 : rises ch 0 ((n : Int) - 1) = true) (h3 : ch.length ≤ 1048576) : pr n st (p ++ [⟨rd st (i : Int), ch⟩]) (i + 1) := by
  constructor
  · intro j hj
    have hj2 : j < p.length + 1 := by rw [List.length_append, List.length_singleton] at hj; exact hj
    rw [rdStop_app p _ j hj]
    by_cases e : j < p.length
    · rw [if_pos e]
      obtain ⟨a, q, b, c⟩ := h.1 j e
      exact ⟨a, q, by omega, c⟩
    · rw [if_neg e]
      exact ⟨⟨by dsimp only; rw [rd_at st i hi2]; exact List.getElem_mem hi2, h1, h2, h3⟩, i, by omega, rfl⟩
  · intro j hj
    have hj2 : j + 1 < p.length + 1 := by rw [List.length_append, List.length_singleton] at hj; exact hj
    rw [rdStop_app p _ j (by omega), rdStop_app p _ (j + 1) hj, if_pos (by omega)]
    by_cases e : j + 1 < p.length
    · rw [if_pos e]
      exact h.2 j e
    · rw [if_neg e]
      obtain ⟨_, q, b, c⟩ := h.1 j (by omega)
      rw [c]
      have := rz_lt hst q (i - q - 1) (by omega)
      rw [show q + 1 + (i - q - 1) = i by omega] at this
      exact this
theorem pr_ok {n : Nat} {st : List Int} {p : List S94} {i : Nat} (hn : n ≤ 1000) (hp : p.length ≤ 1048576) (h : pr n st p i) : planOk n st p = true ∧ shortS p := by
  constructor
  · unfold planOk
    rw [upTo_iff]
    intro j _ hj
    obtain ⟨⟨a, b, c, _⟩, _⟩ := h.1 j (by omega)
    unfold stopOk
    rw [w64 _ (by omega) (by omega), c]
    simp only [Bool.and_eq_true, Bool.or_eq_true, decide_eq_true_eq, Bool.not_eq_true', decide_eq_false_iff_not]
    refine ⟨a, by omega, trivial, ?_⟩
    by_cases e : j = 0
    · exact .inl e
    · right
      obtain ⟨m, rfl⟩ : ∃ m, j = m + 1 := ⟨j - 1, by omega⟩
      exact h.2 m (by omega)
  · refine ⟨hp, ?_⟩
    intro s hs
    obtain ⟨j, hj, rfl⟩ := List.getElem_of_mem hs
    obtain ⟨⟨_, _, _, d⟩, _⟩ := h.1 j hj
    rw [rdStop_at p j hj] at d
    exact d
theorem drawPlan_l1 (c : List Int) (hc : ∀ x ∈ c, (Lit.int .u8 x).wf = true) (cs : List S79) (fc st : List Int) (x y : Int) (hcs : cs.length ≤ 5) (hst : rz st 0 fc.length) (Q : List S94 → Prop) (i : Nat) (hi : i < st.length) (p : List S94) (hpl : p.length ≤ i) (hi2 : st.length ≤ 8) (hp : pr cs.length st p i) (S : Int) (hS : 0 ≤ S ∧ S ≤ 20000) (B : Nat)
    (hcont : ∀ (k : Nat) (p' : List S94) (s e : Int), B ≤ k → p'.length ≤ i + 1 → pr cs.length st p' (i + 1) → (0 ≤ s ∧ s ≤ S) → ∃ r, spec_R8Plan.l0 k p' ((i + 1 : Nat) : Int) cs fc st x y c s e = some r ∧ Q r) :
    ∀ (d k j : Nat) (ch : List Int) (s e : Int), j + d = cs.length → B + d < k → rz ch 0 j → ch.length ≤ j → (0 ≤ s ∧ s + 2 * (d : Int) ≤ S) → ∃ r, spec_R8Plan.l1 k p i ch j cs fc st x y c s e = some r ∧ Q r := by
  intro d
  induction d with
  | zero =>
    intro k j ch s e hj hk hr hl hs
    obtain ⟨k, rfl⟩ : ∃ m, k = m + 1 := ⟨k - 1, by omega⟩
    simp only [spec_R8Plan.l1]
    rw [if_neg (by omega), w64s i (by omega)]
    by_cases h1 : (ch.length : Int) > 0
    · rw [if_pos h1, if_pos (by omega), if_pos (by omega), if_pos (by omega)]
      have hr2 := rz_rises hr
      rw [show j = cs.length by omega] at hr2
      exact hcont k _ s e (by omega) (by simp; omega) (pr_app hst hp hi ch (by omega) hr2 (by omega)) (by omega)
    · rw [if_neg h1]
      exact hcont k p s e (by omega) (by omega) (pr_up hp) (by omega)
  | succ d ih =>
    intro k j ch s e hj hk hr hl hs
    obtain ⟨k, rfl⟩ : ∃ m, k = m + 1 := ⟨k - 1, by omega⟩
    obtain ⟨b, s1, e1, q1, q2⟩ := one_in c hc s e 3 (by omega) (by omega)
    simp only [spec_R8Plan.l1]
    rw [if_pos (by omega), q1, bind_some_, w64s j (by omega)]
    cases b with
    | true =>
      rw [if_pos rfl]
      exact ih k (j + 1) ch s1 e1 (by omega) (by omega) (rz_up hr (by omega)) (by omega) (by omega)
    | false =>
      rw [if_neg (by simp), if_pos (by omega)]
      exact ih k (j + 1) _ s1 e1 (by omega) (by omega) (rz_app hr (by omega) (by omega) (by omega)) (by simp; omega) (by omega)
theorem drawPlan_l0 (c : List Int) (hc : ∀ x ∈ c, (Lit.int .u8 x).wf = true) (cs : List S79) (fc st : List Int) (x y : Int) (hcs : cs.length ≤ 5) (hst : rz st 0 fc.length) (hi2 : st.length ≤ 8) :
    ∀ (d k i : Nat) (p : List S94) (s e : Int), i + d = st.length → 20 * d < k → p.length ≤ i → pr cs.length st p i → (0 ≤ s ∧ s + 20 * (d : Int) ≤ 20000) → ∃ r, spec_R8Plan.l0 k p i cs fc st x y c s e = some r ∧ (planOk cs.length st r = true ∧ shortS r) := by
  intro d
  induction d with
  | zero =>
    intro k i p s e hi hk hl hp hs
    obtain ⟨k, rfl⟩ : ∃ m, k = m + 1 := ⟨k - 1, by omega⟩
    simp only [spec_R8Plan.l0]
    rw [if_neg (by omega)]
    exact ⟨p, rfl, pr_ok (by omega) (by omega) hp⟩
  | succ d ih =>
    intro k i p s e hi hk hl hp hs
    obtain ⟨k, rfl⟩ : ∃ m, k = m + 1 := ⟨k - 1, by omega⟩
    obtain ⟨b, s1, e1, q1, q2⟩ := one_in c hc s e 4 (by omega) (by omega)
    simp only [spec_R8Plan.l0]
    rw [if_pos (by omega), q1, bind_some_, w64s i (by omega)]
    cases b with
    | true =>
      rw [if_pos rfl]
      exact ih k (i + 1) p s1 e1 (by omega) (by omega) (by omega) (pr_up hp) (by omega)
    | false =>
      rw [if_neg (by simp)]
      exact drawPlan_l1 c hc cs fc st x y hcs hst _ i (by omega) p hl hi2 hp (20000 - 20 * (d : Int)) (by omega) (20 * d + 1) (fun k2 p2 s2 e2 g1 g2 g3 g4 => ih k2 (i + 1) p2 s2 e2 (by omega) (by omega) g2 g3 (by omega)) cs.length k 0 [] s1 e1 (by omega) (by omega) (rz_nil _ _) (by simp) (by omega)
theorem drawPlan_is (c : List Int) (hc : ∀ x ∈ c, (Lit.int .u8 x).wf = true) (cs : List S79) (fc st : List Int) (x y : Int) (h : hdOk cs fc st x y = true) (hst : rz st 0 fc.length) (k : Nat) (hk : 200 ≤ k) : ∃ r, spec_R8Plan.f k c cs fc st x y = some r ∧ (planOk cs.length st r = true ∧ shortS r) := by
  have hin := hdOk_in h
  unfold spec_R8Plan.f spec_l00From.f
  rw [bind_some_]
  exact drawPlan_l0 c hc cs fc st x y (by omega) hst (by omega) st.length k 0 [] 0 0 (by omega) (by omega) (by simp) (pr_nil _ _ _) (by omega)

end Go.Proofs.Ytajndapolblhmab.P
/- A number is in a list, as the program asks it. -/
namespace Go.Proofs.Ytajndapolblhmab.P
open Go.RowKit Go.Proofs.Ytajndapolblhmab.P Go.Proofs.YtajndapolblhmabW.PrintWords Go.Proofs.YtajndapolblhmabW.PrintLast Go.Proofs.YtajndapolblhmabW.PrintMore
set_option linter.unusedVariables false
set_option linter.unusedSimpArgs false
theorem implIndex_loop (l : List Int) (n : Int) (hb : l.length ≤ 9223372036854775806) : ∀ (d k i : Nat), i + d = l.length → d < k → ∃ r, slices_Index_int64_int64.l0 k l n l.length i = some r ∧ (decide (r ≥ 0) = decide (n ∈ l.drop i)) := by
  intro d
  induction d with
  | zero =>
    intro k i hi hk
    obtain ⟨k, rfl⟩ : ∃ m, k = m + 1 := ⟨k - 1, by omega⟩
    simp only [slices_Index_int64_int64.l0]
    rw [if_neg (by omega), List.drop_of_length_le (by omega)]
    exact ⟨_, rfl, by simp⟩
  | succ d ih =>
    intro k i hi hk
    obtain ⟨k, rfl⟩ : ∃ m, k = m + 1 := ⟨k - 1, by omega⟩
    simp only [slices_Index_int64_int64.l0]
    rw [if_pos (by omega), if_pos (by omega), if_pos (by omega), w64s i (by omega), drop_at l i (by omega)]
    by_cases h : n = rd l i
    · rw [if_pos h]
      exact ⟨_, rfl, by simp [h]⟩
    · rw [if_neg h]
      obtain ⟨r, hr, hd⟩ := ih k (i + 1) (by omega) (by omega)
      refine ⟨r, hr, ?_⟩
      rw [hd]
      simp [h]
theorem implContains_is (k : Nat) (l : List Int) (n : Int) (hb : l.length ≤ 9223372036854775806) (hk : l.length < k) : slices_Contains_int64_int64.f k l n = some (decide (n ∈ l)) := by
  unfold slices_Contains_int64_int64.f slices_Index_int64_int64.f
  obtain ⟨r, hr, hd⟩ := implIndex_loop l n hb l.length k 0 (by omega) hk
  rw [show ((0 : Nat) : Int) = 0 from rfl] at hr
  rw [hr, bind_some_, hd, List.drop_zero]

end Go.Proofs.Ytajndapolblhmab.P
/- Numbers in a range, as the program asks it of a list. -/
namespace Go.Proofs.Ytajndapolblhmab.P
open Go.RowKit Go.Proofs.Ytajndapolblhmab.P Go.Proofs.YtajndapolblhmabW.PrintWords Go.Proofs.YtajndapolblhmabW.PrintLast Go.Proofs.YtajndapolblhmabW.PrintMore
set_option linter.unusedVariables false
set_option linter.unusedSimpArgs false
theorem areWithin2 (a b lo hi : Int) : impl_areWithin.all lo hi [a, b] = (decide (lo ≤ a ∧ a ≤ hi) && decide (lo ≤ b ∧ b ≤ hi)) := by
  simp [impl_areWithin.all]

end Go.Proofs.Ytajndapolblhmab.P
/- A number lies in a range, as the program asks it. -/
namespace Go.Proofs.Ytajndapolblhmab.P
open Go.RowKit Go.Proofs.Ytajndapolblhmab.P Go.Proofs.YtajndapolblhmabW.PrintWords Go.Proofs.YtajndapolblhmabW.PrintLast Go.Proofs.YtajndapolblhmabW.PrintMore
set_option linter.unusedVariables false
set_option linter.unusedSimpArgs false
theorem within_is (a b c : Int) : impl_within.f a b c = some (decide (b ≤ a ∧ a ≤ c)) := by
  unfold impl_within.f
  by_cases h : b ≤ a <;> simp [h]

end Go.Proofs.Ytajndapolblhmab.P
/- Numbers in a range that rise, as the program asks it. -/
namespace Go.Proofs.Ytajndapolblhmab.P
open Go.RowKit Go.Proofs.Ytajndapolblhmab.P Go.Proofs.YtajndapolblhmabW.PrintWords Go.Proofs.YtajndapolblhmabW.PrintLast Go.Proofs.YtajndapolblhmabW.PrintMore
set_option linter.unusedVariables false
set_option linter.unusedSimpArgs false
theorem implRises_loop (l : List Int) (n : Int) (hb : l.length ≤ 9223372036854775806) : ∀ (d k i : Nat), i + d = l.length → d < k → impl_isSet.l0 k l n l l.length i = some (upTo (riseOk l 0 (wrap64 (n - 1))) d i) := by
  intro d
  induction d with
  | zero =>
    intro k i hi' hk
    obtain ⟨k, rfl⟩ : ∃ m, k = m + 1 := ⟨k - 1, by omega⟩
    simp only [impl_isSet.l0]
    rw [if_neg (by omega)]
    rfl
  | succ d ih =>
    intro k i hi' hk
    obtain ⟨k, rfl⟩ : ∃ m, k = m + 1 := ⟨k - 1, by omega⟩
    have hz := ih k (i + 1) (by omega) (by omega)
    simp only [impl_isSet.l0, within_is, bind_some_, upTo, riseOk]
    rw [if_pos (by omega), if_pos (by omega), if_pos (by omega), w64s i (by omega), hz]
    by_cases h : i = 0
    · rw [if_neg (show ¬ (i : Int) > 0 by omega), ite_tt, decide_eq_true h, Bool.true_or, Bool.and_true]
    · have e : wrap64 ((i : Int) - 1) = ((i - 1 : Nat) : Int) := by rw [w64 _ (by omega) (by omega)]; omega
      rw [if_pos (show (i : Int) > 0 by omega), e, if_pos (show (0 : Int) ≤ ((i - 1 : Nat) : Int) by omega), if_pos (show ((i - 1 : Nat) : Int) < (l.length : Int) by omega), ite_ff, ite_tt, not_ge_dec, decide_eq_false h, Bool.false_or, Bool.and_assoc]
theorem implRises_is (k : Nat) (l : List Int) (n : Int) (hb : l.length ≤ 9223372036854775806) (hk : l.length < k) : impl_isSet.f k l n = some (rises l 0 (wrap64 (n - 1))) := by
  unfold impl_isSet.f rises
  exact implRises_loop l n hb l.length k 0 (by omega) hk

end Go.Proofs.Ytajndapolblhmab.P
/- What the program asks of a head. -/
namespace Go.Proofs.Ytajndapolblhmab.P
open Go.RowKit Go.Proofs.Ytajndapolblhmab.P Go.Proofs.YtajndapolblhmabW.PrintWords Go.Proofs.YtajndapolblhmabW.PrintLast Go.Proofs.YtajndapolblhmabW.PrintMore
set_option linter.unusedVariables false
set_option linter.unusedSimpArgs false
theorem implHead_l0 (cs : List S79) (fc st : List Int) (x y : Int) (hc : cs.length ≤ 1048576) (hb : fc.length ≤ 1048576) (hs : st.length ≤ 1048576) : ∀ (d k i : Nat), i + d = cs.length → d + st.length + 1 < k → impl_ValidHead.l0 k cs cs.length i cs fc st x y = some (upTo (cuOk cs) d i && (decide (1 ≤ (cs.length : Int) ∧ (cs.length : Int) ≤ 5) && (decide ((fc.length : Int) ≤ 60) && (impl_areWithin.all 0 100 fc && (decide ((st.length : Int) ≤ 8) && (rises st 0 (wrap64 ((fc.length : Int) - 1)) && (decide (0 ≤ x ∧ x ≤ 10000) && decide (0 ≤ y ∧ y ≤ 10000)))))))) := by
  intro d
  induction d with
  | zero =>
    intro k i hi' hk
    obtain ⟨k, rfl⟩ : ∃ m, k = m + 1 := ⟨k - 1, by omega⟩
    simp only [impl_ValidHead.l0, within_is, impl_areWithin.f, bind_some_, areWithin2]
    rw [if_neg (by omega), implRises_is k st _ (by omega) (by omega)]
    simp only [bind_some_, ite_tt, ite_pp, upTo, Bool.true_and, Bool.decide_eq_true]
  | succ d ih =>
    intro k i hi' hk
    obtain ⟨k, rfl⟩ : ∃ m, k = m + 1 := ⟨k - 1, by omega⟩
    have hz := ih k (i + 1) (by omega) (by omega)
    simp only [impl_ValidHead.l0, within_is, bind_some_]
    rw [if_pos (by omega), if_pos (by omega), if_pos (by omega), w64s i (by omega), hz, ite_tt, ite_tt]
    simp only [upTo, cuOk, Bool.and_assoc]
theorem implHead_is (k : Nat) (cs : List S79) (fc st : List Int) (x y : Int) (hc : cs.length ≤ 1048576) (hb : fc.length ≤ 1048576) (hs : st.length ≤ 1048576) (hk : cs.length + st.length + 3 < k) : impl_ValidHead.f k cs fc st x y = some (hdOk cs fc st x y) := by
  unfold impl_ValidHead.f
  have h0 := implHead_l0 cs fc st x y hc hb hs cs.length k 0 (by omega) (by omega)
  rw [show ((0 : Nat) : Int) = 0 by rfl] at h0
  rw [h0]
  unfold hdOk
  congr 1
  ac_rfl

end Go.Proofs.Ytajndapolblhmab.P
/- What is asked of a plan, as the program asks it. -/
namespace Go.Proofs.Ytajndapolblhmab.P
open Go.RowKit Go.Proofs.Ytajndapolblhmab.P Go.Proofs.YtajndapolblhmabW.PrintWords Go.Proofs.YtajndapolblhmabW.PrintLast Go.Proofs.YtajndapolblhmabW.PrintMore
set_option linter.unusedVariables false
set_option linter.unusedSimpArgs false
theorem implPlan_l0 (cs : List S79) (fc st : List Int) (x y : Int) (p : List S94) (hc : cs.length ≤ 1048576) (hs : st.length ≤ 1048576) (hp : shortS p) : ∀ (d k i : Nat), i + d = p.length → d + 1048577 < k → impl_IsPlan.l0 k p p p.length i cs fc st x y = some (upTo (stopOk cs.length st p) d i) := by
  intro d
  have hb := hp.1
  induction d with
  | zero =>
    intro k i hi hk
    obtain ⟨k, rfl⟩ : ∃ m, k = m + 1 := ⟨k - 1, by omega⟩
    simp only [impl_IsPlan.l0]
    rw [if_neg (by omega)]
    rfl
  | succ d ih =>
    intro k i hi hk
    obtain ⟨k, rfl⟩ : ∃ m, k = m + 1 := ⟨k - 1, by omega⟩
    have hz := ih k (i + 1) (by omega) (by omega)
    have h1 := shortS_at hp i (by omega)
    simp only [impl_IsPlan.l0]
    rw [if_pos (by omega), if_pos (by omega), if_pos (by omega), implContains_is k st _ (by omega) (by omega), implRises_is k _ _ (by omega) (by omega)]
    simp only [bind_some_]
    rw [w64s i (by omega)]
    by_cases h : i = 0
    · rw [if_neg (show ¬ (i : Int) > 0 by omega)]
      have hrest := ite_tc (decide ((rd_T94 p (i : Int)).f0 ∈ st)) _ _ (ite_fc (((rd_T94 p (i : Int)).f1.length : Int) = 0) _ _ (ite_tc (rises (rd_T94 p (i : Int)).f1 0 (wrap64 ((cs.length : Int) - 1))) _ _ hz))
      rw [hrest]
      simp only [upTo, stopOk]
      simp [h, Bool.and_assoc]
    · have e : wrap64 ((i : Int) - 1) = ((i - 1 : Nat) : Int) := by rw [w64 _ (by omega) (by omega)]; omega
      rw [if_pos (show (i : Int) > 0 by omega), e, if_pos (show (0 : Int) ≤ ((i - 1 : Nat) : Int) by omega), if_pos (show ((i - 1 : Nat) : Int) < (p.length : Int) by omega)]
      have hrest := ite_tc (decide ((rd_T94 p (i : Int)).f0 ∈ st)) _ _ (ite_fc (((rd_T94 p (i : Int)).f1.length : Int) = 0) _ _ (ite_tc (rises (rd_T94 p (i : Int)).f1 0 (wrap64 ((cs.length : Int) - 1))) _ _ (ite_fc ((rd_T94 p ((i - 1 : Nat) : Int)).f0 ≥ (rd_T94 p (i : Int)).f0) _ _ hz)))
      rw [hrest, not_ge_dec]
      simp only [upTo, stopOk]
      rw [decide_eq_false h, Bool.false_or]
      simp only [Bool.and_assoc]
theorem implIsPlan_is (k : Nat) (cs : List S79) (fc st : List Int) (x y : Int) (p : List S94) (hc : cs.length ≤ 1048576) (hb : fc.length ≤ 1048576) (hs : st.length ≤ 1048576) (hp : shortS p) (hk : cs.length + fc.length + st.length + p.length + 1048580 < k) : impl_IsPlan.f k cs fc st x y p = some (hdOk cs fc st x y && planOk cs.length st p) := by
  unfold impl_IsPlan.f planOk
  rw [implHead_is k cs fc st x y hc hb hs (by omega), bind_some_]
  exact ite_tc _ _ _ (implPlan_l0 cs fc st x y p hc hs hp p.length k 0 (by omega) (by omega))

end Go.Proofs.Ytajndapolblhmab.P
/- A list that is told by what stands at each place. -/
namespace Go.Proofs.Ytajndapolblhmab.P
open Go.RowKit Go.Proofs.Ytajndapolblhmab.P Go.Proofs.YtajndapolblhmabW.PrintWords Go.Proofs.YtajndapolblhmabW.PrintLast Go.Proofs.YtajndapolblhmabW.PrintMore
set_option linter.unusedVariables false
set_option linter.unusedSimpArgs false
def wl (n : Nat) (f : Nat → Int) : List Int := (List.range n).map f
theorem wl_len (n : Nat) (f : Nat → Int) : (wl n f).length = n := by simp [wl]
theorem wl_get (n : Nat) (f : Nat → Int) (i : Nat) (h : i < (wl n f).length) : (wl n f)[i] = f i := by simp [wl]
theorem wl_rd (n : Nat) (f : Nat → Int) (i : Nat) (h : i < n) : rd (wl n f) (i : Int) = f i := by
  rw [rd_at _ i (by rw [wl_len]; exact h), wl_get]
theorem wl_congr (n : Nat) (f g : Nat → Int) (h : ∀ c, c < n → f c = g c) : wl n f = wl n g := by
  unfold wl
  apply List.map_congr_left
  intro c hc
  exact h c (List.mem_range.mp hc)
theorem wl_set (n : Nat) (f : Nat → Int) (i : Nat) (v : Int) : (wl n f).set i v = wl n (fun c => if c = i then v else f c) := by
  apply List.ext_getElem
  · rw [List.length_set, wl_len, wl_len]
  · intro j h1 h2
    rw [List.getElem_set, wl_get, wl_get]
    by_cases e : i = j
    · rw [if_pos e]
      show v = if j = i then v else f j
      rw [if_pos e.symm]
    · rw [if_neg e]
      show f j = if j = i then v else f j
      rw [if_neg (fun q : j = i => e q.symm)]
theorem wl_zero (n : Nat) : List.replicate n (0 : Int) = wl n (fun _ => 0) := by
  apply List.ext_getElem
  · rw [List.length_replicate, wl_len]
  · intro j h1 h2
    rw [wl_get, List.getElem_replicate]
end Go.Proofs.Ytajndapolblhmab.P
/- How worn the cutters are, as the program reckons it. -/
namespace Go.Proofs.Ytajndapolblhmab.P
open Go.RowKit Go.Proofs.Ytajndapolblhmab.P Go.Proofs.YtajndapolblhmabW.PrintWords Go.Proofs.YtajndapolblhmabW.PrintLast Go.Proofs.YtajndapolblhmabW.PrintMore
set_option linter.unusedVariables false
set_option linter.unusedSimpArgs false
theorem implWorn_l2 (cs : List S79) (fc st : List Int) (x y : Int) (p pl : List S94) (R n m i : Int) (ch : List Int) (hl : ch.length ≤ 1048576) (hch : ∀ c ∈ ch, 0 ≤ c ∧ c < cs.length) (F : Nat → Int) (out : Option (List Int)) (B : Nat)
    (hcont : ∀ k, B ≤ k → impl_Head_worn.l1 k p R (wl cs.length F) n pl m (wrap64 (i + 1)) cs fc st x y = out) : ∀ (d k j : Nat) (f : Nat → Int), j + d = ch.length → B + d < k → (∀ c : Nat, (if (c : Int) ∈ ch.drop j then 0 else f c) = F c) → impl_Head_worn.l2 k p R (wl cs.length f) n pl m i ch ch.length j cs fc st x y = out := by
  intro d
  induction d with
  | zero =>
    intro k j f hj hk hf
    obtain ⟨k, rfl⟩ : ∃ m, k = m + 1 := ⟨k - 1, by omega⟩
    simp only [impl_Head_worn.l2]
    rw [if_neg (by omega)]
    have e : f = F := by
      funext c
      have := hf c
      rw [List.drop_of_length_le (by omega)] at this
      simpa using this
    rw [e]
    exact hcont k (by omega)
  | succ d ih =>
    intro k j f hj hk hf
    obtain ⟨k, rfl⟩ : ∃ m, k = m + 1 := ⟨k - 1, by omega⟩
    have hc := hch _ (List.getElem_mem (show j < ch.length by omega))
    rw [← rd_at ch j (by omega)] at hc
    obtain ⟨q, hq⟩ : ∃ q : Nat, rd ch (j : Int) = q := ⟨(rd ch (j : Int)).toNat, by omega⟩
    simp only [impl_Head_worn.l2]
    rw [if_pos (by omega), if_pos (by omega), if_pos (by omega), if_pos hc.1, if_pos (by rw [wl_len]; exact hc.2), hq, Int.toNat_natCast, wl_set, w64s j (by omega)]
    refine ih k (j + 1) _ (by omega) (by omega) ?_
    intro c
    rw [← hf c, drop_at ch j (by omega), hq]
    by_cases h1 : c = q
    · subst h1
      simp
    · have h2 : ¬ (c : Int) = (q : Int) := by omega
      simp [h1, h2]
theorem implWorn_l1 (M : Nat) (hM : 1048580 ≤ M) (cs : List S79) (fc st : List Int) (x y : Int) (p : List S94) (R n : Int) (hp : planIn cs.length p) (F : Nat → Int) (out : Option (List Int)) (B : Nat)
    (hcont : ∀ k, B ≤ k → impl_Head_worn.l3 k p R (wl cs.length F) n cs cs.length 0 cs fc st x y = out) : ∀ (d k i : Nat) (f : Nat → Int), i + d = p.length → B + d * M < k → (∀ c : Nat, (if chg (p.drop i) c n = true then 0 else f c) = F c) → impl_Head_worn.l1 k p R (wl cs.length f) n p p.length i cs fc st x y = out := by
  intro d
  have hb := hp.1.1
  induction d with
  | zero =>
    intro k i f hj hk hf
    obtain ⟨k, rfl⟩ : ∃ m, k = m + 1 := ⟨k - 1, by omega⟩
    simp only [impl_Head_worn.l1]
    rw [if_neg (by omega)]
    have e : f = F := by
      funext c
      have := hf c
      rw [List.drop_of_length_le (by omega)] at this
      simpa [chg] using this
    rw [e]
    exact hcont k (by omega)
  | succ d ih =>
    intro k i f hj hk hf
    obtain ⟨k, rfl⟩ : ∃ m, k = m + 1 := ⟨k - 1, by omega⟩
    have hlt : i < p.length := by omega
    have hdm : (d + 1) * M = d * M + M := Nat.succ_mul d M
    have hs := shortS_at hp.1 i hlt
    have hm := hp.2 _ (List.getElem_mem hlt)
    rw [← rdStop_at p i hlt] at hm
    have hd : p.drop i = rd_T94 p (i : Int) :: p.drop (i + 1) := by rw [rdStop_at p i hlt, List.drop_eq_getElem_cons hlt]
    simp only [impl_Head_worn.l1]
    rw [if_pos (by omega), if_pos (by omega), if_pos (by omega)]
    by_cases h1 : (rd_T94 p (i : Int)).f0 = n
    · rw [if_pos h1]
      refine implWorn_l2 cs fc st x y p p R n p.length i _ hs hm (fun c => if (c : Int) ∈ (rd_T94 p (i : Int)).f1 then 0 else f c) out (B + d * M + 1) ?_ (rd_T94 p (i : Int)).f1.length k 0 f (by omega) (by omega) ?_
      · intro k2 hk2
        rw [w64s i (by omega)]
        refine ih k2 (i + 1) _ (by omega) (by omega) ?_
        intro c
        rw [← hf c, hd]
        simp only [chg, List.any_cons]
        by_cases h2 : (c : Int) ∈ (rd_T94 p (i : Int)).f1
        · simp [h1, h2]
        · simp [h2]
      · intro c
        rw [List.drop_zero]
    · rw [if_neg h1, w64s i (by omega)]
      refine ih k (i + 1) _ (by omega) (by omega) ?_
      intro c
      rw [← hf c, hd]
      simp [chg, h1]
theorem implWorn_l3a (cs : List S79) (fc st : List Int) (x y : Int) (hh : hdOk cs fc st x y = true) (p : List S94) (R n : Nat) (hn : n < R) (hR : R ≤ fc.length) (F : Nat → Int) (out : Option (List Int)) (B : Nat)
    (hcont : ∀ k, B ≤ k → impl_Head_worn.l0 k p R (wl cs.length F) ((n + 1 : Nat) : Int) cs fc st x y = out) : ∀ (d k j : Nat) (f : Nat → Int), j + d = cs.length → B + d < k → (∀ c : Nat, j ≤ c → c < cs.length → 0 ≤ f c ∧ f c ≤ 10000000) → (∀ c : Nat, c < cs.length → (if j ≤ c then f c + wearStep cs fc c n else f c) = F c) → impl_Head_worn.l3 k p R (wl cs.length f) n cs cs.length j cs fc st x y = out := by
  intro d
  have hin := hdOk_in hh
  induction d with
  | zero =>
    intro k j f hj hk hf hF
    obtain ⟨k, rfl⟩ : ∃ m, k = m + 1 := ⟨k - 1, by omega⟩
    simp only [impl_Head_worn.l3]
    rw [if_neg (by omega), w64s n (by omega), wl_congr cs.length f F (fun c hc => by have := hF c hc; rwa [if_neg (by omega)] at this)]
    exact hcont k (by omega)
  | succ d ih =>
    intro k j f hj hk hf hF
    obtain ⟨k, rfl⟩ : ∃ m, k = m + 1 := ⟨k - 1, by omega⟩
    have h1 := hf j (Nat.le_refl _) (by omega)
    have h2 := step_in hh j n (by omega) (by omega)
    have e1 : wrap64 ((rd_T79 cs (j : Int)).f0 * rd fc (n : Int)) = wearStep cs fc j n := by
      unfold wearStep at h2 ⊢
      rw [w64 _ (by omega) (by omega)]
    simp only [impl_Head_worn.l3]
    rw [if_pos (by omega), if_pos (by omega), if_pos (by omega), if_pos (by omega), if_pos (by rw [wl_len]; omega), if_pos (by omega), if_pos (by omega), e1, wl_rd _ _ j (by omega), w64 (f j + wearStep cs fc j n) (by omega) (by omega), Int.toNat_natCast, wl_set, w64s j (by omega)]
    refine ih k (j + 1) _ (by omega) (by omega) ?_ ?_
    · intro c h3 h4
      rw [if_neg (by omega)]
      exact hf c (by omega) h4
    · intro c h3
      rw [← hF c h3]
      by_cases h4 : c = j
      · subst h4
        rw [if_neg (by omega), if_pos rfl, if_pos (Nat.le_refl _)]
      · by_cases h5 : j ≤ c
        · rw [if_pos (by omega), if_neg h4, if_pos h5]
        · rw [if_neg (by omega), if_neg h4, if_neg h5]
theorem implWorn_l3b (cs : List S79) (fc st : List Int) (x y : Int) (p : List S94) (R : Nat) (hR : R ≤ 1048576) (hc : cs.length ≤ 1048576) (o : List Int) (out : Option (List Int)) (B : Nat)
    (hcont : ∀ k, B ≤ k → impl_Head_worn.l0 k p R o ((R + 1 : Nat) : Int) cs fc st x y = out) : ∀ (d k j : Nat), j + d = cs.length → B + d < k → impl_Head_worn.l3 k p R o R cs cs.length j cs fc st x y = out := by
  intro d
  induction d with
  | zero =>
    intro k j hj hk
    obtain ⟨k, rfl⟩ : ∃ m, k = m + 1 := ⟨k - 1, by omega⟩
    simp only [impl_Head_worn.l3]
    rw [if_neg (by omega), w64s R (by omega)]
    exact hcont k (by omega)
  | succ d ih =>
    intro k j hj hk
    obtain ⟨k, rfl⟩ : ∃ m, k = m + 1 := ⟨k - 1, by omega⟩
    simp only [impl_Head_worn.l3]
    rw [if_pos (by omega), if_pos (by omega), if_pos (by omega), if_neg (by omega), w64s j (by omega)]
    exact ih k (j + 1) (by omega) (by omega)
theorem implWorn_l0 (M C : Nat) (hM : 1048580 ≤ M) (cs : List S79) (fc st : List Int) (x y : Int) (hh : hdOk cs fc st x y = true) (p : List S94) (hp : planIn cs.length p) (R : Nat) (hR : R ≤ fc.length) (hC : p.length * M + 1000 ≤ C) : ∀ (e k n : Nat), n + e = R → (e + 1) * C < k → impl_Head_worn.l0 k p R (wl cs.length (fun c => wearIn cs fc p c n)) n cs fc st x y = some (wl cs.length (fun c => wearP cs fc p c R)) := by
  intro e
  have hin := hdOk_in hh
  have hb := hp.1.1
  induction e with
  | zero =>
    intro k n hn hk
    rw [Nat.zero_add, Nat.one_mul] at hk
    have hn2 : n = R := by omega
    subst hn2
    obtain ⟨k, rfl⟩ : ∃ m, k = m + 1 := ⟨k - 1, by omega⟩
    simp only [impl_Head_worn.l0]
    rw [if_pos (Int.le_refl _)]
    refine implWorn_l1 M hM cs fc st x y p n n hp (fun c => wearP cs fc p c n) _ 100 ?_ p.length k 0 _ (by omega) (by omega) ?_
    · intro k2 hk2
      refine implWorn_l3b cs fc st x y p n (by omega) (by omega) _ _ 1 ?_ cs.length k2 0 (by omega) (by omega)
      intro k3 hk3
      obtain ⟨k3, rfl⟩ : ∃ m, k3 = m + 1 := ⟨k3 - 1, by omega⟩
      simp only [impl_Head_worn.l0]
      rw [if_neg (by omega)]
    · intro c
      rw [List.drop_zero, wearP_eq]
  | succ e ih =>
    intro k n hn hk
    have hec : (e + 1 + 1) * C = (e + 1) * C + C := Nat.succ_mul (e + 1) C
    obtain ⟨k, rfl⟩ : ∃ m, k = m + 1 := ⟨k - 1, by omega⟩
    simp only [impl_Head_worn.l0]
    rw [if_pos (by omega)]
    refine implWorn_l1 M hM cs fc st x y p R n hp (fun c => wearP cs fc p c n) _ ((e + 1) * C + 100) ?_ p.length k 0 _ (by omega) (by omega) ?_
    · intro k2 hk2
      refine implWorn_l3a cs fc st x y hh p R n (by omega) hR (fun c => wearIn cs fc p c (n + 1)) _ ((e + 1) * C + 1) ?_ cs.length k2 0 _ (by omega) (by omega) ?_ ?_
      · intro k3 hk3
        exact ih k3 (n + 1) (by omega) (by omega)
      · intro c _ hc
        have := wearP_in p hh c hc n (by omega)
        omega
      · intro c hc
        rw [if_pos (Nat.zero_le _)]
        rfl
    · intro c
      rw [List.drop_zero, wearP_eq]
def wearOk (n : Nat) : Prop := 61 * 1099515900000 < n
theorem implWorn_is (wearK : Nat) (hW : wearOk wearK) (k : Nat) (cs : List S79) (fc st : List Int) (x y : Int) (hh : hdOk cs fc st x y = true) (p : List S94) (hp : planIn cs.length p) (R : Nat) (hR : R ≤ fc.length) (hk : wearK ≤ k) : impl_Head_worn.f k cs fc st x y p R = some (wl cs.length (fun c => wearP cs fc p c R)) := by
  have hin := hdOk_in hh
  have h1 : p.length * 1048580 ≤ 1048576 * 1048580 := Nat.mul_le_mul_right _ hp.1.1
  have h2 : (1048576 * 1048580 + 1000 : Nat) ≤ 1099515900000 := by decide
  have h3 : (R + 1) * 1099515900000 ≤ 61 * 1099515900000 := Nat.mul_le_mul_right _ (by omega)
  have h4 : 61 * 1099515900000 < wearK := hW
  unfold impl_Head_worn.f
  rw [if_pos (by omega), if_pos (by omega), Int.toNat_natCast, wl_zero]
  exact implWorn_l0 1048580 1099515900000 (Nat.le_refl _) cs fc st x y hh p hp R hR (Nat.le_trans (Nat.add_le_add_right h1 1000) h2) R k 0 (by omega) (Nat.lt_of_le_of_lt h3 (Nat.lt_of_lt_of_le h4 hk))
theorem implFail_l1 (cs : List S79) (fc st : List Int) (x y : Int) (hh : hdOk cs fc st x y = true) (p : List S94) (n : Nat) (hn : n < fc.length) (m : Int) (out : Option (Int × Int)) (B : Nat)
    (hcont : failC cs fc p n cs.length 0 = none → ∀ k, B ≤ k → impl_Head_failure.l0 k p fc m ((n + 1 : Nat) : Int) cs fc st x y = out) (hfound : ∀ c, failC cs fc p n cs.length 0 = some c → out = some ((c : Int), (n : Int))) : ∀ (d k j : Nat), j + d = cs.length → B + d < k → failC cs fc p n d j = failC cs fc p n cs.length 0 → impl_Head_failure.l1 k p n (rd fc (n : Int)) (wl cs.length (fun c => wearP cs fc p c n)) fc m n cs cs.length j cs fc st x y = out := by
  intro d
  have hin := hdOk_in hh
  induction d with
  | zero =>
    intro k j hj hk he
    obtain ⟨k, rfl⟩ : ∃ m, k = m + 1 := ⟨k - 1, by omega⟩
    simp only [impl_Head_failure.l1]
    rw [if_neg (by omega), w64s n (by omega)]
    exact hcont (by rw [← he]; rfl) k (by omega)
  | succ d ih =>
    intro k j hj hk he
    obtain ⟨k, rfl⟩ : ∃ m, k = m + 1 := ⟨k - 1, by omega⟩
    have h1 := wearP_in p hh j (by omega) n (by omega)
    have h2 := step_in hh j n (by omega) hn
    have e1 : wrap64 ((rd_T79 cs (j : Int)).f0 * rd fc (n : Int)) = wearStep cs fc j n := by
      unfold wearStep at h2 ⊢
      rw [w64 _ (by omega) (by omega)]
    simp only [impl_Head_failure.l1]
    rw [if_pos (by omega), if_pos (by omega), if_pos (by omega), if_pos (by rw [wl_len]; omega), e1, wl_rd _ _ j (by omega), w64 (wearP cs fc p j n + wearStep cs fc j n) (by omega) (by omega), w64s j (by omega)]
    simp only [failC] at he
    by_cases h3 : wearP cs fc p j n + wearStep cs fc j n > (rd_T79 cs (j : Int)).f1
    · rw [if_pos h3] at he ⊢
      exact (hfound j he.symm).symm
    · rw [if_neg h3] at he ⊢
      exact ih k (j + 1) (by omega) (by omega) he
theorem implFail_l0 (wearK : Nat) (hW : wearOk wearK) (cs : List S79) (fc st : List Int) (x y : Int) (hh : hdOk cs fc st x y = true) (p : List S94) (hp : planIn cs.length p) : ∀ (d k n : Nat), n + d = fc.length → wearK + 100 * d < k → impl_Head_failure.l0 k p fc fc.length n cs fc st x y = some (match failN cs fc p d n with | some (c, n) => ((c : Int), (n : Int)) | none => (-1, -1)) := by
  intro d
  have hin := hdOk_in hh
  induction d with
  | zero =>
    intro k n hn hk
    obtain ⟨k, rfl⟩ : ∃ m, k = m + 1 := ⟨k - 1, by omega⟩
    simp only [impl_Head_failure.l0, failN]
    rw [if_neg (by omega)]
  | succ d ih =>
    intro k n hn hk
    obtain ⟨k, rfl⟩ : ∃ m, k = m + 1 := ⟨k - 1, by omega⟩
    simp only [impl_Head_failure.l0, failN]
    rw [if_pos (by omega), if_pos (by omega), if_pos (by omega), implWorn_is wearK hW k cs fc st x y hh p hp n (by omega) (by omega), bind_some_]
    refine implFail_l1 cs fc st x y hh p n (by omega) _ _ (wearK + 100 * d + 1) ?_ ?_ cs.length k 0 (by omega) (by omega) rfl
    · intro h1 k2 hk2
      rw [h1]
      exact ih k2 (n + 1) (by omega) (by omega)
    · intro c hc
      rw [hc]
theorem implFail_is (wearK : Nat) (hW : wearOk wearK) (k : Nat) (cs : List S79) (fc st : List Int) (x y : Int) (hh : hdOk cs fc st x y = true) (p : List S94) (hp : planIn cs.length p) (hk : wearK + 10000 ≤ k) : impl_Head_failure.f k cs fc st x y p = some (match failP cs fc p with | some (c, n) => ((c : Int), (n : Int)) | none => (-1, -1)) := by
  have hin := hdOk_in hh
  unfold impl_Head_failure.f failP
  exact implFail_l0 wearK hW cs fc st x y hh p hp fc.length k 0 (by omega) (by omega)

end Go.Proofs.Ytajndapolblhmab.P
/- A valid head with a plan of it; what is told of them. -/
namespace Go.Proofs.Ytajndapolblhmab.P
open Go.RowKit Go.Proofs.Ytajndapolblhmab.P Go.Proofs.YtajndapolblhmabW.PrintWords Go.Proofs.YtajndapolblhmabW.PrintLast Go.Proofs.YtajndapolblhmabW.PrintMore
set_option linter.unusedVariables false
set_option linter.unusedSimpArgs false
def planFine (cs : List S79) (fc st : List Int) (x y : Int) (p : List S94) : Bool := hdOk cs fc st x y && planOk cs.length st p
theorem planFine_in {cs : List S79} {fc st : List Int} {x y : Int} {p : List S94} (hp : shortS p) (h : planFine cs fc st x y p = true) : hdOk cs fc st x y = true ∧ planIn cs.length p := by
  unfold planFine at h
  rw [Bool.and_eq_true] at h
  have := hdOk_in h.1
  exact ⟨h.1, planOk_in (by omega) hp h.2⟩
def firstFailP (cs : List S79) (fc st : List Int) (x y : Int) (p : List S94) : Int × Int × Bool :=
  if planFine cs fc st x y p = true then (match failP cs fc p with | some (c, n) => ((c : Int), (n : Int), true) | none => (0, 0, false)) else (0, 0, false)
def enoughP (cs : List S79) (fc st : List Int) (x y : Int) (p : List S94) : Bool := planFine cs fc st x y p && (failP cs fc p).isNone

end Go.Proofs.Ytajndapolblhmab.P
/- The first failure, as the program answers. -/
namespace Go.Proofs.Ytajndapolblhmab.P
open Go.RowKit Go.Proofs.Ytajndapolblhmab.P Go.Proofs.YtajndapolblhmabW.PrintWords Go.Proofs.YtajndapolblhmabW.PrintLast Go.Proofs.YtajndapolblhmabW.PrintMore
set_option linter.unusedVariables false
set_option linter.unusedSimpArgs false
theorem implFirstFailure_is (wearK : Nat) (hW : wearOk wearK) (k : Nat) (cs : List S79) (fc st : List Int) (x y : Int) (p : List S94) (hc : cs.length ≤ 1048576) (hb : fc.length ≤ 1048576) (hs : st.length ≤ 1048576) (hp : shortS p) (hk : wearK + 10000000 ≤ k) : impl_FirstFailure.f k cs fc st x y p = some (firstFailP cs fc st x y p) := by
  have := hp.1
  unfold impl_FirstFailure.f firstFailP
  rw [implIsPlan_is k cs fc st x y p hc hb hs hp (by omega), bind_some_]
  by_cases h : planFine cs fc st x y p = true
  · obtain ⟨h1, h2⟩ := planFine_in hp h
    rw [if_pos h, implFail_is wearK hW k cs fc st x y h1 p h2 (by omega), bind_some_]
    unfold planFine at h
    rw [if_pos h]
    cases failP cs fc p with
    | none => simp
    | some q =>
      obtain ⟨c, n⟩ := q
      dsimp only
      rw [if_neg (by omega)]
  · rw [if_neg h]
    unfold planFine at h
    rw [if_neg h]

end Go.Proofs.Ytajndapolblhmab.P
/- Whether a plan is enough, as the program answers. -/
namespace Go.Proofs.Ytajndapolblhmab.P
open Go.RowKit Go.Proofs.Ytajndapolblhmab.P Go.Proofs.YtajndapolblhmabW.PrintWords Go.Proofs.YtajndapolblhmabW.PrintLast Go.Proofs.YtajndapolblhmabW.PrintMore
set_option linter.unusedVariables false
set_option linter.unusedSimpArgs false
theorem implIsEnough_is (wearK : Nat) (hW : wearOk wearK) (k : Nat) (cs : List S79) (fc st : List Int) (x y : Int) (p : List S94) (hc : cs.length ≤ 1048576) (hb : fc.length ≤ 1048576) (hs : st.length ≤ 1048576) (hp : shortS p) (hk : wearK + 10000000 ≤ k) : impl_IsEnough.f k cs fc st x y p = some (enoughP cs fc st x y p) := by
  have := hp.1
  unfold impl_IsEnough.f enoughP
  rw [implIsPlan_is k cs fc st x y p hc hb hs hp (by omega), bind_some_]
  by_cases h : planFine cs fc st x y p = true
  · obtain ⟨h1, h2⟩ := planFine_in hp h
    rw [h, implFail_is wearK hW k cs fc st x y h1 p h2 (by omega), bind_some_]
    unfold planFine at h
    rw [if_pos h]
    cases failP cs fc p with
    | none => simp
    | some q =>
      obtain ⟨c, n⟩ := q
      simp
  · have h4 : planFine cs fc st x y p = false := by simpa using h
    rw [h4]
    unfold planFine at h
    rw [if_neg h]
    rfl

end Go.Proofs.Ytajndapolblhmab.P
/- The wear, as the program answers. -/
namespace Go.Proofs.Ytajndapolblhmab.P
open Go.RowKit Go.Proofs.Ytajndapolblhmab.P Go.Proofs.YtajndapolblhmabW.PrintWords Go.Proofs.YtajndapolblhmabW.PrintLast Go.Proofs.YtajndapolblhmabW.PrintMore
set_option linter.unusedVariables false
set_option linter.unusedSimpArgs false
def wornAtP (cs : List S79) (fc st : List Int) (x y : Int) (p : List S94) (n : Int) : List Int × Bool :=
  if planFine cs fc st x y p = true then (if 0 ≤ n ∧ n ≤ (fc.length : Int) then (wl cs.length (fun c => wearP cs fc p c n.toNat), true) else ([], false)) else ([], false)
theorem implWornAt_is (wearK : Nat) (hW : wearOk wearK) (k : Nat) (cs : List S79) (fc st : List Int) (x y : Int) (p : List S94) (n : Int) (hc : cs.length ≤ 1048576) (hb : fc.length ≤ 1048576) (hs : st.length ≤ 1048576) (hp : shortS p) (hk : wearK + 10000000 ≤ k) : impl_WornAt.f k cs fc st x y p n = some (wornAtP cs fc st x y p n) := by
  have := hp.1
  unfold impl_WornAt.f wornAtP planFine
  rw [implIsPlan_is k cs fc st x y p hc hb hs hp (by omega), bind_some_]
  by_cases h : planFine cs fc st x y p = true
  · obtain ⟨h1, h2⟩ := planFine_in hp h
    unfold planFine at h
    rw [if_pos h, if_pos h, within_is, bind_some_]
    by_cases h3 : 0 ≤ n ∧ n ≤ (fc.length : Int)
    · obtain ⟨m, rfl⟩ : ∃ m : Nat, n = m := ⟨n.toNat, by omega⟩
      rw [if_pos (decide_eq_true h3), if_pos h3, implWorn_is wearK hW k cs fc st x y h1 p h2 m (by omega) (by omega), bind_some_, Int.toNat_natCast]
    · rw [if_neg (by simpa using h3), if_neg h3]
  · unfold planFine at h
    rw [if_neg h, if_neg h]

end Go.Proofs.Ytajndapolblhmab.P
