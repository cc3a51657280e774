/- What has been lost less what is spare is what the voids have more than what has set, and the losses behind rings have these volumes; no condition. -/
import Derived.Test.YtajndapolblhmaaLemCore
import Derived.Test.YtajndapolblhmaaLemDrawGrouts
import Derived.Test.YtajndapolblhmaaLemGroutMore
import Derived.Test.YtajndapolblhmaaLemGrouts
import Derived.Test.YtajndapolblhmaaLemImplGrouts
import Derived.Test.YtajndapolblhmaaLemImplLossOf
import Derived.Test.YtajndapolblhmaaLemImplLossesOf
import Derived.Test.YtajndapolblhmaaLemImplSpare
import Derived.Test.YtajndapolblhmaaLemLosses
import Derived.Test.YtajndapolblhmaaLemRdGrout
import Derived.Test.YtajndapolblhmaaLemRdLoss
import Derived.Test.YtajndapolblhmaaLemSpareOf
import Derived.Test.YtajndapolblhmaaPx0
import Derived.Test.YtajndapolblhmaaPx14
import Derived.Test.YtajndapolblhmaaPx33
namespace Go.Proofs.Ytajndapolblhmaa.Pure
open Go.RowKit Go.Proofs.Ytajndapolblhmaa.P Go.Proofs.YtajndapolblhmaaW.PrintWords Go.Proofs.YtajndapolblhmaaW.PrintLast Go.Proofs.YtajndapolblhmaaW.PrintMore
set_option linter.unusedVariables false
set_option linter.unusedSimpArgs false
theorem grSet_in (g : S40) (h : grFine g) : grSet g = g.f2 * (100 - g.f3) / 100 ∧ 0 ≤ grSet g ∧ grSet g ≤ 3000 := by
  obtain ⟨_, _, h2, h3⟩ := h
  have m1 : 0 ≤ g.f2 * (100 - g.f3) := Int.mul_nonneg h2.1 (by omega)
  have m2 : g.f2 * (100 - g.f3) ≤ 3000 * (100 - g.f3) := Int.mul_le_mul_of_nonneg_right h2.2 (by omega)
  unfold grSet
  rw [w64 (100 - g.f3) (by omega) (by omega), w64 (g.f2 * (100 - g.f3)) (by omega) (by omega), Int.tdiv_eq_ediv_of_nonneg m1, w64 _ (by omega) (by omega)]
  omega
theorem rdLoss_map (l : List S40) (w : Int) (i : Nat) (h : i < l.length) : rd_T42 (l.map (lossAt w)) i = lossAt w (rd_T40 l i) := by
  rw [rdLoss_at _ i (by rw [List.length_map]; exact h), rdGrout_at l i h, List.getElem_map]
theorem fine_one (g : S40) (h : grFine g) : grValid [g] = true :=
  grRise_valid [g] 24 (grRise_app [] g 0 24 ⟨fun i hi => by simp at hi, fun i hi => by simp at hi⟩ h h.1.1 (by have := h.1.2; omega)) (by simp)
theorem grouted_loop (l : List S40) (hv : grValid l = true) (hl : l.length ≤ 12) (hf : ∀ i, i < l.length → grFine (rd_T40 l i)) (S : Int) (L : List S42) (two : Bool) (hL : two = true → L = l.map (lossAt 0)) :
    ∀ (d k i : Nat) (sum want sp : Int), i + d = l.length → d + 40 < k → S = spareGo sp (l.drop i) → want = sum - sp → (0 ≤ sum ∧ sum ≤ 3000 * i) → (0 ≤ sp ∧ sp ≤ 3000 * i) → laws_FnGrouted.l0 k l S true L two sum want i = some true := by
  intro d
  induction d with
  | zero =>
    intro k i sum want sp hi hk hS hw h1 h2
    obtain ⟨k, rfl⟩ : ∃ m, k = m + 1 := ⟨k - 1, by omega⟩
    rw [List.drop_of_length_le (by omega)] at hS
    have hS2 : S = sp := hS
    simp only [laws_FnGrouted.l0]
    rw [if_neg (by omega), if_pos trivial, implGrouts_is _ l (by omega) (by omega), bind_some_, if_pos hv, w64 (sum - S) (by omega) (by omega), hS2, hw]
    simp
  | succ d ih =>
    intro k i sum want sp hi hk hS hw h1 h2
    obtain ⟨k, rfl⟩ : ∃ m, k = m + 1 := ⟨k - 1, by omega⟩
    have hg := hf i (by omega)
    obtain ⟨s1, s2, s3⟩ := grSet_in _ hg
    have hone := fine_one _ hg
    obtain ⟨_, hg1, hg2, hg3⟩ := hg
    rw [dropGrout_at l i (by omega)] at hS
    have hrec := fun x y z => ih k (i + 1) x y z (by omega) (by omega)
    have hloss : 0 ≤ grLoss (rd_T40 l i) ∧ grLoss (rd_T40 l i) = (if (rd_T40 l i).f1 - grSet (rd_T40 l i) < 0 then 0 else (rd_T40 l i).f1 - grSet (rd_T40 l i)) := by
      unfold grLoss
      rw [w64 (_ - _) (by omega) (by omega)]
      constructor
      · split <;> omega
      · rfl
    have hsp : ∃ x, S = spareGo (sp + x) (l.drop (i + 1)) ∧ 0 ≤ x ∧ x ≤ 3000 ∧ grLoss (rd_T40 l i) - x = (rd_T40 l i).f1 - grSet (rd_T40 l i) ∧ grLoss (rd_T40 l i) ≤ 3000 := by
      simp only [spareGo] at hS
      rw [w64 (grSet (rd_T40 l i) - (rd_T40 l i).f1) (by omega) (by omega)] at hS
      by_cases c : grSet (rd_T40 l i) - (rd_T40 l i).f1 < 0
      · rw [if_pos c, w64 (sp + 0) (by omega) (by omega)] at hS
        refine ⟨0, hS, by omega, by omega, ?_, ?_⟩
        · rw [hloss.2, if_neg (by omega)]; omega
        · rw [hloss.2, if_neg (by omega)]; omega
      · rw [if_neg c, w64 (sp + _) (by omega) (by omega)] at hS
        refine ⟨_, hS, by omega, by omega, ?_, ?_⟩
        · rw [hloss.2]; split <;> omega
        · rw [hloss.2]; split <;> omega
    obtain ⟨x, hx1, hx2, hx3, hx4, hx5⟩ := hsp
    have e0 : wrap64 (Int.tdiv (wrap64 ((rd_T40 l i).f2 * wrap64 (100 - (rd_T40 l i).f3))) 100) = grSet (rd_T40 l i) := rfl
    have goal2 : laws_FnGrouted.l0 k l S true L two (wrap64 (sum + grLoss (rd_T40 l i))) (wrap64 (want + wrap64 ((rd_T40 l i).f1 - grSet (rd_T40 l i)))) ((i + 1 : Nat) : Int) = some true := by
      rw [w64 (sum + _) (by omega) (by omega), w64 ((rd_T40 l i).f1 - _) (by omega) (by omega), w64 (want + _) (by omega) (by omega)]
      exact hrec _ _ (sp + x) hx1 (by omega) (by omega) (by omega)
    simp only [laws_FnGrouted.l0]
    rw [if_pos (show (i : Int) < (l.length : Int) by omega), if_pos (show 0 ≤ (i : Int) by omega), implLossOf_is k _ (by omega), if_pos hone, bind_some_, if_pos rfl, e0, w64s i (by omega), goal2]
    cases two with
    | false => simp
    | true =>
      have hL2 := hL rfl
      rw [if_pos rfl, hL2, List.length_map, if_pos rfl, if_pos (by omega), rdLoss_map l 0 i (by omega)]
      simp [lossAt]
theorem FnGrouted : laws_FnGrouted.Pure := by
  intro l m _ _ hl _ _ _
  refine ⟨400, ?_⟩
  unfold laws_FnGrouted.f laws_b10Long.f
  by_cases h1 : (l.length : Int) > 1048576
  · rw [if_pos h1, bind_some_, if_pos rfl]
  · rw [if_neg h1, bind_some_]
    by_cases h2 : (m.length : Int) > 1048576
    · rw [if_pos (by simpa using h2)]
    · rw [if_neg (by simpa using h2)]
      obtain ⟨r, hr, hv, hlen, hf⟩ := drawGrouts_is l hl 400 (by omega)
      rw [hr, bind_some_, implSpare_is _ r (by omega) (by omega), bind_some_, implLossesOf_is _ r 0 (by omega) (by omega), bind_some_]
      have e : spareOf r = (spareGo 0 r, true) := by unfold spareOf; rw [if_pos hv]
      rw [e]
      refine grouted_loop r hv (by omega) hf _ _ _ ?_ r.length 400 0 0 0 0 (by omega) (by omega) (by simp) (by omega) (by omega) (by omega)
      intro ht
      unfold lossesOf at ht ⊢
      by_cases c1 : grValid r = true ∧ (0 ≤ (0 : Int) ∧ (0 : Int) ≤ 5)
      · rw [if_pos c1] at ht ⊢
        by_cases c2 : lsValid (r.map (lossAt 0)) = true
        · rw [if_pos c2]
        · rw [if_neg c2] at ht; simp at ht
      · rw [if_neg c1] at ht; simp at ht

end Go.Proofs.Ytajndapolblhmaa.Pure
