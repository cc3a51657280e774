/- The reference's least units are the least sum, and its picks are the greedy ones. -/
import Derived.Test.YtegjebiocgbmpaaLemCore
import Derived.Test.YtegjebiocgbmpaaLemFewest
import Derived.Test.YtegjebiocgbmpaaLemFewestT
import Derived.Test.YtegjebiocgbmpaaLemImplNeedsRow
import Derived.Test.YtegjebiocgbmpaaLemLeast
import Derived.Test.YtegjebiocgbmpaaLemRow
import Derived.Test.YtegjebiocgbmpaaLemSpecRow
import Derived.Test.YtegjebiocgbmpaaPx0
import Derived.Test.YtegjebiocgbmpaaPx1
import Derived.Test.YtegjebiocgbmpaaPx6
import Derived.Test.YtegjebiocgbmpaaPx7
namespace Go.Proofs.Ytegjebiocgbmpaa.P
open Go.RowKit Go.Proofs.Ytegjebiocgbmpaa.P Go.Proofs.YtegjebiocgbmpaaW.PrintWords Go.Proofs.YtegjebiocgbmpaaW.PrintLast Go.Proofs.YtegjebiocgbmpaaW.PrintMore
set_option linter.unusedVariables false
set_option linter.unusedSimpArgs false
theorem goes_is (ns : List Int) (hl : 1 ≤ ns.length ∧ ns.length ≤ 12) (T : List (List (List Int))) (hT : T.length = ns.length + 1) (i : Nat) (hi : i < ns.length) (hG : rowGood ns i (T.getD i [])) (us : List Int) (hus : us.length = i) (a b c left : Int) (ha : a = if 1 < i then us.getD (i - 2) 0 else 0) (ha6 : 0 ≤ a ∧ a ≤ 6) (hb6 : 0 ≤ b ∧ b ≤ 6) (hc6 : 0 ≤ c ∧ c ≤ 6) :
    spec_l07Goes.f ns T (i : Int) us b c left = some (decide (mayC ns i a b c ∧ tvU ns i b c = left)) := by
  obtain ⟨bn, rfl⟩ : ∃ m : Nat, b = (m : Int) := ⟨b.toNat, by omega⟩
  obtain ⟨cn, rfl⟩ : ∃ m : Nat, c = (m : Int) := ⟨c.toNat, by omega⟩
  have r1 : rd_L3 T (i : Int) = T.getD i [] := rdL3_nat T i
  have r2 : rd_L2 (T.getD i []) (bn : Int) = (T.getD i []).getD bn [] := rdL2_nat _ _
  have r3 : rd ((T.getD i []).getD bn []) (cn : Int) = tvU ns i bn cn := by rw [rd_nat]; exact (hG.2 bn (by omega)).2 cn (by omega)
  have w3 : wrap64 (2 * (bn : Int)) = 2 * bn := by unfold wrap64; omega
  have g1 : (0 : Int) ≤ (i : Int) := by omega
  have g2 : (i : Int) < (T.length : Int) := by omega
  have g3 : (0 : Int) ≤ (bn : Int) := by omega
  have g4 : (bn : Int) < ((T.getD i []).length : Int) := by rw [hG.1]; omega
  have g5 : (0 : Int) ≤ (cn : Int) := by omega
  have g6 : (cn : Int) < (((T.getD i []).getD bn []).length : Int) := by rw [(hG.2 bn (by omega)).1]; omega
  have last : ∀ (p : Prop) [Decidable p], p → (if (0 : Int) ≤ (i : Int) then (if (i : Int) < (T.length : Int) then (if (0 : Int) ≤ (bn : Int) then (if (bn : Int) < ((rd_L3 T (i : Int)).length : Int) then (if (0 : Int) ≤ (cn : Int) then (if (cn : Int) < ((rd_L2 (rd_L3 T (i : Int)) (bn : Int)).length : Int) then (some ((rd (rd_L2 (rd_L3 T (i : Int)) (bn : Int)) (cn : Int)) == left)) else (none)) else (none)) else (none)) else (none)) else (none)) else (none)) = some (decide (p ∧ tvU ns i bn cn = left)) := by
    intro p _ hp
    rw [if_pos g1, if_pos g2, if_pos g3, r1, if_pos g4, if_pos g5, r2, if_pos g6, r3]
    congr 1
    by_cases q : tvU ns i bn cn = left
    · rw [decide_eq_true ⟨hp, q⟩, q]
      simp
    · rw [decide_eq_false (fun h => q h.2)]
      exact beq_eq_false_iff_ne.mpr q
  have hfalse : ∀ (p : Prop) [Decidable p], ¬ p → some false = some (decide (p ∧ tvU ns i bn cn = left)) := by
    intro p _ hp
    rw [decide_eq_false (fun h => hp h.1)]
  unfold spec_l07Goes.f
  by_cases c0 : i = 0
  · rw [if_neg (by omega)]
    exact last _ (Or.inl c0)
  · have w1 : wrap64 ((i : Int) - 1) = ((i - 1 : Nat) : Int) := by clear last hfalse; unfold wrap64; omega
    have k1 : (0 : Int) ≤ ((i - 1 : Nat) : Int) := by omega
    have k2 : ((i - 1 : Nat) : Int) < (ns.length : Int) := by omega
    have w4 : wrap64 (a + 2 * (bn : Int)) = a + 2 * bn := by clear last hfalse w1 w3; unfold wrap64; omega
    have w5 : wrap64 (a + 2 * (bn : Int) + (cn : Int)) = a + 2 * bn + cn := by clear last hfalse w1 w3 w4; unfold wrap64; omega
    have hm : mayC ns i a bn cn ↔ ¬ a + 2 * (bn : Int) + cn < rd ns ((i - 1 : Nat) : Int) := by
      unfold mayC
      constructor
      · intro h
        rcases h with h | h <;> omega
      · intro h
        exact Or.inr (by omega)
    rw [if_pos (by omega)]
    by_cases c1 : 1 < i
    · have w2 : wrap64 ((i : Int) - 2) = ((i - 2 : Nat) : Int) := by clear last hfalse w1 w3 w4 w5; unfold wrap64; omega
      have ra : rd us ((i - 2 : Nat) : Int) = a := by rw [rd_nat, ha, if_pos c1]
      rw [if_pos (by omega), w2, if_pos (by omega), if_pos (by omega), w1, if_pos k1, if_pos k2, ra, w3, w4, w5]
      by_cases q : a + 2 * (bn : Int) + cn < rd ns ((i - 1 : Nat) : Int)
      · rw [if_pos q]
        exact hfalse _ (fun h => hm.mp h q)
      · rw [if_neg q]
        exact last _ (hm.mpr q)
    · have a0 : a = 0 := by rw [ha, if_neg c1]
      rw [if_neg (by omega), w1, if_pos k1, if_pos k2, w3]
      rw [a0] at w4 w5 hm
      rw [w4, w5, a0]
      by_cases q : 0 + 2 * (bn : Int) + cn < rd ns ((i - 1 : Nat) : Int)
      · rw [if_pos q]
        exact hfalse _ (fun h => hm.mp h q)
      · rw [if_neg q]
        exact last _ (hm.mpr q)
theorem total_loop (ns : List Int) (hl : 1 ≤ ns.length ∧ ns.length ≤ 12) (T : List (List (List Int))) (hT : T.length = ns.length + 1) (hG : rowGood ns 0 (T.getD 0 [])) : ∀ (d k c : Nat) (B : Int), c + d = 7 → d < k → (0 ≤ B ∧ B ≤ 1000) →
    spec_LeastUnits.l0 k ns T (if B < 1000 then B else -1) (c : Int) = spec_LeastUnits.l1 (k - d - 1) ns T (if bestC ns 0 0 0 (fun c => restU ns (ns.length - 1) 0 c) d c B < 1000 then bestC ns 0 0 0 (fun c => restU ns (ns.length - 1) 0 c) d c B else -1) [] 0 (if bestC ns 0 0 0 (fun c => restU ns (ns.length - 1) 0 c) d c B < 1000 then bestC ns 0 0 0 (fun c => restU ns (ns.length - 1) 0 c) d c B else -1) 0
  | 0, k, c, B, hc, hk, hB => by
    obtain ⟨k, rfl⟩ : ∃ m, k = m + 1 := ⟨k - 1, by omega⟩
    simp only [spec_LeastUnits.l0]
    rw [if_neg (by omega)]
    rfl
  | d + 1, k, c, B, hc, hk, hB => by
    obtain ⟨k, rfl⟩ : ∃ m, k = m + 1 := ⟨k - 1, by omega⟩
    have r1 : rd_L3 T 0 = T.getD 0 [] := rdL3_nat T 0
    have r2 : rd_L2 (T.getD 0 []) 0 = (T.getD 0 []).getD 0 [] := rdL2_nat _ 0
    have r3 : rd ((T.getD 0 []).getD 0 []) (c : Int) = tvU ns 0 0 c := by rw [rd_nat]; exact (hG.2 0 (by omega)).2 c (by omega)
    have hr := restU_in ns (ns.length - 1) 0 (c : Int)
    have ht : tvU ns 0 0 c = if restU ns (ns.length - 1) 0 c < 1000 then c + restU ns (ns.length - 1) 0 c else -1 := by
      unfold tvU
      rw [if_neg (by omega), Nat.sub_zero]
    have hsm := restU_small ns (ns.length - 1) 0 (c : Int)
    have ih := fun B' hB' => total_loop ns hl T hT hG d k (c + 1) B' (by omega) (by omega) hB'
    simp only [spec_LeastUnits.l0]
    rw [show bestC ns 0 0 0 (fun c => restU ns (ns.length - 1) 0 c) (d + 1) (c : Int) B = bestC ns 0 0 0 (fun c => restU ns (ns.length - 1) 0 c) d ((c : Int) + 1) (if mayC ns 0 0 0 (c : Int) then min B ((c : Int) + restU ns (ns.length - 1) 0 c) else B) from rfl, if_pos (show mayC ns 0 0 0 (c : Int) from Or.inl rfl)]
    rw [if_pos (by omega), if_pos (by omega), r1, if_pos (by rw [hG.1]; omega), if_pos (by omega), r2, if_pos (by rw [(hG.2 0 (by omega)).1]; omega), r3, ht, show wrap64 ((c : Int) + 1) = ((c + 1 : Nat) : Int) from w64s c (by omega), show (c : Int) + 1 = ((c + 1 : Nat) : Int) by omega, show k + 1 - (d + 1) - 1 = k - d - 1 by omega]
    by_cases q : restU ns (ns.length - 1) 0 (c : Int) < 1000
    · have hq := hsm q
      rw [if_pos q, if_pos (by omega)]
      by_cases z : B < 1000
      · rw [if_pos z, if_neg (by omega)]
        by_cases y : (c : Int) + restU ns (ns.length - 1) 0 c < B
        · rw [if_pos y, show min B ((c : Int) + restU ns (ns.length - 1) 0 c) = (c : Int) + restU ns (ns.length - 1) 0 c by omega]
          have := ih ((c : Int) + restU ns (ns.length - 1) 0 c) (by omega)
          rw [if_pos (show (c : Int) + restU ns (ns.length - 1) 0 c < 1000 by omega)] at this
          exact this
        · rw [if_neg y, show min B ((c : Int) + restU ns (ns.length - 1) 0 c) = B by omega]
          have := ih B hB
          rw [if_pos z] at this
          exact this
      · rw [if_neg z, if_pos (by omega), show min B ((c : Int) + restU ns (ns.length - 1) 0 c) = (c : Int) + restU ns (ns.length - 1) 0 c by omega]
        have := ih ((c : Int) + restU ns (ns.length - 1) 0 c) (by omega)
        rw [if_pos (show (c : Int) + restU ns (ns.length - 1) 0 c < 1000 by omega)] at this
        exact this
    · rw [if_neg q, if_neg (by omega), show min B ((c : Int) + restU ns (ns.length - 1) 0 c) = B by omega]
      exact ih B hB
theorem pick_loop (ns : List Int) (hl : 1 ≤ ns.length ∧ ns.length ≤ 12) (T : List (List (List Int))) (hT : T.length = ns.length + 1) (i e : Nat) (hi : i + (e + 1) = ns.length) (hG : rowGood ns i (T.getD i [])) (us : List Int) (hus : us.length = i) (a b tot left z : Int) (ha : a = if 1 < i then us.getD (i - 2) 0 else 0) (ha6 : 0 ≤ a ∧ a ≤ 6) (hb6 : 0 ≤ b ∧ b ≤ 6) (hlf : 0 ≤ left ∧ left < 1000) : ∀ (d k c : Nat), c + d = 7 → d < k → pickC ns i a b (fun c => restU ns e b c) left d (c : Int) = some z →
    ∃ k', k ≤ k' + d ∧ spec_LeastUnits.l2 k ns T tot us b left (i : Int) (c : Int) = spec_LeastUnits.l1 k' ns T tot (us ++ [z]) z (wrap64 (left - z)) ((i + 1 : Nat) : Int)
  | 0, k, c, hc, hk, h => by simp [pickC] at h
  | d + 1, k, c, hc, hk, h => by
    obtain ⟨k, rfl⟩ : ∃ m, k = m + 1 := ⟨k - 1, by omega⟩
    have hr := restU_in ns e b (c : Int)
    have ht : tvU ns i b c = if restU ns e b c < 1000 then c + restU ns e b c else -1 := by
      unfold tvU
      rw [if_neg (by omega), show ns.length - 1 - i = e by omega]
    have hiff : (mayC ns i a b c ∧ tvU ns i b c = left) ↔ (mayC ns i a b c ∧ (c : Int) + restU ns e b c = left) := by
      rw [ht]
      by_cases q : restU ns e b (c : Int) < 1000
      · rw [if_pos q]
      · rw [if_neg q]
        constructor
        · intro ⟨_, h⟩; omega
        · intro ⟨_, h⟩; omega
    simp only [spec_LeastUnits.l2]
    rw [goes_is ns hl T hT i (by omega) hG us hus a b (c : Int) left ha ha6 hb6 (by omega), bind_some_]
    simp only [pickC] at h
    by_cases q : mayC ns i a b c ∧ (c : Int) + restU ns e b c = left
    · rw [if_pos q] at h
      have hz := Option.some.inj h
      rw [decide_eq_true (hiff.mpr q), if_pos rfl, if_pos (by omega), hz]
      refine ⟨k, by omega, ?_⟩
      rw [show wrap64 ((i : Int) + 1) = ((i + 1 : Nat) : Int) from w64s i (by omega)]
    · rw [if_neg q] at h
      rw [decide_eq_false (fun x => q (hiff.mp x)), if_neg (by decide), show wrap64 ((c : Int) + 1) = ((c + 1 : Nat) : Int) from w64s c (by omega)]
      rw [show (c : Int) + 1 = ((c + 1 : Nat) : Int) by omega] at h
      obtain ⟨k', h1, h2⟩ := pick_loop ns hl T hT i e hi hG us hus a b tot left z ha ha6 hb6 hlf d k (c + 1) (by omega) (by omega) h
      exact ⟨k', by omega, h2⟩
theorem picks_loop (ns : List Int) (hl : 1 ≤ ns.length ∧ ns.length ≤ 12) (T : List (List (List Int))) (hT : T.length = ns.length + 1) (hG : ∀ j, j ≤ ns.length → rowGood ns j (T.getD j [])) (tot : Int) : ∀ (d k i : Nat) (us : List Int) (a b left : Int), i + d = ns.length → 9 * d < k → us.length = i → a = (if 1 < i then us.getD (i - 2) 0 else 0) → b = (if 0 < i then us.getD (i - 1) 0 else 0) → (0 ≤ a ∧ a ≤ 6) → (0 ≤ b ∧ b ≤ 6) → left = restU ns d a b → left < 1000 →
    spec_LeastUnits.l1 k ns T tot us b left (i : Int) = some (us ++ goodU ns d a b, tot, true)
  | 0, k, i, us, a, b, left, hi, hk, hus, ha, hb, ha6, hb6, hlf, hl1 => by
    obtain ⟨k, rfl⟩ : ∃ m, k = m + 1 := ⟨k - 1, by omega⟩
    simp only [spec_LeastUnits.l1, goodU]
    rw [if_neg (by omega), List.append_nil]
  | d + 1, k, i, us, a, b, left, hi, hk, hus, ha, hb, ha6, hb6, hlf, hl1 => by
    obtain ⟨k, rfl⟩ : ∃ m, k = m + 1 := ⟨k - 1, by omega⟩
    obtain ⟨z, hz, hz0, hz6, hzl, hzs, hzg⟩ := goodU_step ns d a b (by omega)
    have hl0 := (restU_in ns (d + 1) a b).1
    rw [← hlf, show ns.length - (d + 1) = i by omega] at hz
    obtain ⟨k', h1, h2⟩ := pick_loop ns hl T hT i d hi (hG i (by omega)) us hus a b tot left z ha ha6 hb6 ⟨by omega, hl1⟩ 7 k 0 (by omega) (by omega) hz
    simp only [spec_LeastUnits.l1]
    rw [if_pos (by omega)]
    refine h2.trans ?_
    rw [hzg]
    have w : wrap64 (left - z) = left - z := by unfold wrap64; omega
    have := picks_loop ns hl T hT hG tot d k' (i + 1) (us ++ [z]) b z (left - z) (by omega) (by omega) (by rw [List.length_append, List.length_singleton]; omega) (by
      rw [show i + 1 - 2 = i - 1 by omega, hb]
      by_cases q : 0 < i
      · rw [if_pos q, if_pos (by omega), List.getD_eq_getElem?_getD, List.getD_eq_getElem?_getD, List.getElem?_append_left (by omega)]
      · rw [if_neg q, if_neg (by omega)]) (by
      rw [if_pos (by omega), show i + 1 - 1 = i by omega, List.getD_eq_getElem?_getD, List.getElem?_append_right (by omega), show i - us.length = 0 by omega]
      rfl) hb6 ⟨hz0, hz6⟩ (by omega) (by omega)
    rw [w, this, List.append_assoc]
    rfl
def leastP (ns : List Int) : List Int × Int × Bool := if rowOk 12 ns = true then (goodU ns ns.length 0 0, restU ns ns.length 0 0, true) else ([], 0, false)
theorem implLeast_is (ns : List Int) : impl_LeastUnits.f ns = some (leastP ns) := by
  unfold impl_LeastUnits.f leastP
  rw [implNeedsRow_is, bind_some_]
  split <;> rfl
theorem row_all {ns : List Int} (h : rowOk 12 ns = true) : ∀ x ∈ ns, 0 ≤ x ∧ x ≤ 12 := by
  unfold rowOk at h
  simp only [Bool.and_eq_true, List.all_eq_true, decide_eq_true_eq] at h
  exact h.2
theorem leastP_len (ns : List Int) : (leastP ns).1.length ≤ 12 := by
  unfold leastP
  by_cases c : rowOk 12 ns = true
  · rw [if_pos c]
    have hl := rowOk_len c
    have := (goodU_is ns ns.length 0 0 (restU_all ns hl (fun x hx => (row_all c x hx).2))).2.2.1
    show (goodU ns ns.length 0 0).length ≤ 12
    omega
  · rw [if_neg c]
    simp
theorem specLeast_is (k : Nat) (ns : List Int) (hb : ns.length ≤ 9223372036854775806) (hk : ns.length + 200 < k) : spec_LeastUnits.f k ns = some (leastP ns) := by
  unfold spec_LeastUnits.f leastP
  rw [specRow_is k 12 ns hb (by omega), bind_some_]
  by_cases c : rowOk 12 ns = true
  · rw [if_pos c, if_pos c]
    have hl := rowOk_len c
    have hv := row_all c
    obtain ⟨T, e, hT, hG⟩ := fewest_is ns hl hv
    rw [e, bind_some_]
    have h := total_loop ns hl T hT (hG 0 (by omega)) 7 k 0 1000 (by omega) (by omega) (by omega)
    have hr : bestC ns 0 0 0 (fun c => restU ns (ns.length - 1) 0 c) 7 ((0 : Nat) : Int) 1000 = restU ns ns.length 0 0 := by
      obtain ⟨d, hd⟩ : ∃ d, ns.length = d + 1 := ⟨ns.length - 1, by omega⟩
      rw [hd]
      simp only [restU]
      rw [hd, Nat.sub_self]
      rfl
    have h6 := restU_all ns hl (fun x hx => (hv x hx).2)
    rw [hr, if_neg (by omega), if_pos h6] at h
    refine h.trans ?_
    exact picks_loop ns hl T hT hG _ ns.length (k - 7 - 1) 0 [] 0 0 _ (by omega) (by omega) rfl rfl rfl (by omega) (by omega) rfl h6
  · rw [if_neg c, if_neg c]

end Go.Proofs.Ytegjebiocgbmpaa.P
