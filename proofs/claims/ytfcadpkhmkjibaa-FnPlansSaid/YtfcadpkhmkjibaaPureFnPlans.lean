/- A plan for stops is sufficient, and if some plan is sufficient, the one for its stops has no more changes of a cutter and costs no more; no condition. -/
import Derived.Test.YtfcadpkhmkjibaaCFnPlans3
import Derived.Test.YtfcadpkhmkjibaaCFnPlans4
import Derived.Test.YtfcadpkhmkjibaaCFnPlans0
import Derived.Test.YtfcadpkhmkjibaaCFnPlans2
namespace Go.Proofs.Ytfcadpkhmkjibaa.Pure
open Go.RowKit Go.Proofs.Ytfcadpkhmkjibaa.P Go.Proofs.YtfcadpkhmkjibaaW.PrintWords Go.Proofs.YtfcadpkhmkjibaaW.PrintLast Go.Proofs.YtfcadpkhmkjibaaW.PrintMore
set_option linter.unusedVariables false
set_option linter.unusedSimpArgs false
theorem plans_l0 (cs : List S34) (fc st : List Int) (x y : Int) (p : List S49) (hp : p.length ≤ 1048576) (out : Option Bool) (B : Nat) (hcont : ∀ k, B ≤ k → laws_FnPlans.l0 k p (ringsP p) p.length cs fc st x y = out) : ∀ (d k i : Nat), i + d = p.length → B + d < k → laws_FnPlans.l0 k p ((ringsP p).take i) i cs fc st x y = out := by
  intro d
  induction d with
  | zero =>
    intro k i hi hk
    have := hcont k (by omega)
    rw [List.take_of_length_le (by rw [ringsP_len]; omega), show i = p.length by omega]
    exact this
  | succ d ih =>
    intro k i hi hk
    obtain ⟨k, rfl⟩ : ∃ m, k = m + 1 := ⟨k - 1, by omega⟩
    have hl : ((ringsP p).take i).length = i := by rw [List.length_take, ringsP_len]; omega
    have hz := ih k (i + 1) (by omega) (by omega)
    simp only [laws_FnPlans.l0]
    rw [if_pos (by omega), if_pos (by omega), if_pos (by omega), w64s i (by omega)]
    rw [List.take_add_one, List.getElem?_eq_getElem (by rw [ringsP_len]; omega)] at hz
    rw [← rings_rd p i (by omega), rd_at _ i (by rw [ringsP_len]; omega)]
    exact hz
theorem plans_l1 (cs : List S34) (fc st : List Int) (x y : Int) (hc : cs.length ≤ 5) (p g : List S49) (hp : shortS p) (hg : shortS g) (h : ∀ c, c < cs.length → cntC c g ≤ cntC c p) : ∀ (d k i : Nat), i + d = cs.length → d + 3000000 < k → laws_FnPlans.l1 k p g i cs fc st x y = some true := by
  intro d
  have h1 := hp.1
  have h2 := hg.1
  induction d with
  | zero =>
    intro k i hi hk
    obtain ⟨k, rfl⟩ : ∃ m, k = m + 1 := ⟨k - 1, by omega⟩
    simp only [laws_FnPlans.l1]
    rw [if_neg (by omega)]
  | succ d ih =>
    intro k i hi hk
    obtain ⟨k, rfl⟩ : ∃ m, k = m + 1 := ⟨k - 1, by omega⟩
    have := h i (by omega)
    simp only [laws_FnPlans.l1]
    rw [if_pos (by omega), r8Count_is k g hg i (by omega), bind_some_, r8Count_is k p hp i (by omega), bind_some_, if_neg (by omega), w64s i (by omega)]
    exact ih k (i + 1) (by omega) (by omega)
theorem FnPlans : laws_FnPlans.Pure := by
  intro l m _ _ hl _ _ hm
  obtain ⟨wearK, hW⟩ : ∃ n, wearOk n := ⟨_, Nat.lt_succ_self _⟩
  obtain ⟨F, hF⟩ : ∃ F, F = wearK + 600000000 := ⟨_, rfl⟩
  obtain ⟨⟨cs, fc, st, x, y⟩, q1, hh, hz⟩ := drawHead_is l hl F (by omega)
  dsimp only at hh hz
  obtain ⟨p, q2, hpo, hp⟩ := drawPlan_is m hm cs fc st x y hh hz F (by omega)
  have hin := hdOk_in hh
  have hpl := hp.1
  have hpF := planF_of (by omega) hpo
  obtain ⟨r1, r2, r3⟩ := rings_ok hz hpF
  have hrl : (ringsP p).length ≤ 1048576 := by rw [ringsP_len]; exact hpl
  have hgF := forP_F (cs := cs) (fc := fc) (st := st) (ringsP p) r1 r2 r3
  have hgo := planF_ok (by omega) hgF
  obtain ⟨hgl, hgi⟩ := forP_in fc (ringsP p) hin.1 hrl
  rw [ringsP_len] at hgl
  refine ⟨F, ?_⟩
  unfold laws_FnPlans.f laws_r8Long.f
  by_cases h1 : (l.length : Int) > 48
  · rw [if_pos h1, bind_some_, if_pos rfl]
  · rw [if_neg h1, bind_some_]
    by_cases h2 : (m.length : Int) > 48
    · rw [if_pos (by simpa using h2)]
    · rw [if_neg (by simpa using h2), q1, bind_some_]
      dsimp only
      rw [q2, bind_some_]
      have key := plans_l0 cs fc st x y p hpl (some true) (wearK + 500000000) (fun k hk => ?_) p.length F 0 (by omega) (by omega)
      · rw [List.take_zero] at key
        exact key
      · obtain ⟨k, rfl⟩ : ∃ m, k = m + 4 := ⟨k - 4, by omega⟩
        simp only [laws_FnPlans.l0]
        rw [if_neg (by omega), implPlanFor_is wearK hW _ cs fc st x y (ringsP p) (by omega) (by omega) (by omega) hrl (by omega), bind_some_, implCostOf_is _ cs fc st x y p (by omega) (by omega) (by omega) hp (by omega), bind_some_, costP_is hh hpo, planForP_is hh (ringsP p) r1 r2 r3]
        have ep : ∀ k, wearK + 10000000 ≤ k → impl_IsEnough.f k cs fc st x y p = some (failP cs fc p).isNone := fun k hk => by
          rw [implIsEnough_is wearK hW k cs fc st x y p (by omega) (by omega) (by omega) hp hk, enoughP_is hh hpo]
        have eg : ∀ k, wearK + 10000000 ≤ k → impl_IsEnough.f k cs fc st x y (forP cs fc (ringsP p)) = some (failP cs fc (forP cs fc (ringsP p))).isNone := fun k hk => by
          rw [implIsEnough_is wearK hW k cs fc st x y _ (by omega) (by omega) (by omega) hgi.1 hk, enoughP_is hh hgo]
        have hbest := fun hf => for_best hh p (ringsP p) r1 r2 hpF.up (fun t ht => List.mem_map.mpr ⟨t, ht, rfl⟩) hf
        cases hg : (failP cs fc (forP cs fc (ringsP p))).isNone with
        | true =>
          rw [hg] at eg
          rw [if_pos rfl]
          dsimp only
          rw [if_pos rfl, if_pos rfl, eg _ (by omega), bind_some_, if_pos rfl, ep _ (by omega), bind_some_]
          have hj : ∀ z, z = false → laws_FnPlans.j1 (k + 3) p (forP cs fc (ringsP p)) true (costGo x y p 0) z cs fc st x y = some true := fun z hz0 => by
            rw [hz0]
            simp only [laws_FnPlans.j1]
            rw [if_neg (by simp), if_pos trivial, ep _ (by omega), bind_some_]
            simp only [laws_FnPlans.j2]
            cases hf : (failP cs fc p).isNone with
            | false => rw [if_pos (by rfl)]
            | true =>
              have hle := (hbest hf).2
              have hcl := cost_le hin.2.2.2.1 hin.2.2.2.2 hin.1 hgF hpF (by have := hin.2.2.1; have := pl_small hh hz hpF; omega) hgl hle
              rw [if_neg (by simp), implCostOf_is _ cs fc st x y _ (by omega) (by omega) (by omega) hgi.1 (by omega), bind_some_, costP_is hh hgo]
              dsimp only
              rw [if_pos rfl, decide_eq_false (by omega)]
              simp only [laws_FnPlans.j3]
              rw [if_neg (by simp)]
              exact plans_l1 cs fc st x y hin.1 p _ hp hgi.1 hle cs.length k 0 (by omega) (by omega)
          cases hf : (failP cs fc p).isNone with
          | true => rw [if_pos rfl]; exact hj _ rfl
          | false => rw [if_neg (by simp)]; exact hj _ rfl
        | false =>
          have hf : (failP cs fc p).isNone = false := by
            rw [Bool.eq_false_iff]
            intro hf
            have := (hbest hf).1
            rw [hg] at this
            cases this
          rw [hf] at ep
          rw [show (if false = true then (forP cs fc (ringsP p), true) else ([], false)) = (([] : List S49), false) from rfl]
          dsimp only
          rw [if_pos rfl, if_neg (show ¬ (false = true) by simp), ep _ (by omega), bind_some_, if_neg (show ¬ (false = true) by simp)]
          simp only [laws_FnPlans.j1]
          rw [if_neg (by simp), if_neg (by simp)]
          simp only [laws_FnPlans.j2]
          rw [if_pos trivial]

end Go.Proofs.Ytfcadpkhmkjibaa.Pure
