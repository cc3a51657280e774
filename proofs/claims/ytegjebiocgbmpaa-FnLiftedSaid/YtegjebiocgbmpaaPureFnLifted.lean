/- The units that the program takes lift the drawn needs, add up to what it says, and no drawn plan that lifts takes fewer; no condition. -/
import Derived.Test.YtegjebiocgbmpaaLemB10Sum
import Derived.Test.YtegjebiocgbmpaaLemCore
import Derived.Test.YtegjebiocgbmpaaLemDrawLifts
import Derived.Test.YtegjebiocgbmpaaLemImplIsLifted
import Derived.Test.YtegjebiocgbmpaaLemImplLiftsOf
import Derived.Test.YtegjebiocgbmpaaLemImplNeedsRow
import Derived.Test.YtegjebiocgbmpaaLemIsLifted
import Derived.Test.YtegjebiocgbmpaaLemLeast
import Derived.Test.YtegjebiocgbmpaaLemLifts
import Derived.Test.YtegjebiocgbmpaaLemRow
import Derived.Test.YtegjebiocgbmpaaPx1
import Derived.Test.YtegjebiocgbmpaaPx2
import Derived.Test.YtegjebiocgbmpaaPx4
namespace Go.Proofs.Ytegjebiocgbmpaa.Pure
open Go.RowKit Go.Proofs.Ytegjebiocgbmpaa.P Go.Proofs.YtegjebiocgbmpaaW.PrintWords Go.Proofs.YtegjebiocgbmpaaW.PrintLast Go.Proofs.YtegjebiocgbmpaaW.PrintMore
set_option linter.unusedVariables false
set_option linter.unusedSimpArgs false
theorem lifted_l0 (ns us : List Int) (m : Int) (G : List Int) (k0 : Nat) (hn : rowOk 12 ns = true) (hk0 : 100 < k0) (hus : us.length = ns.length) (hG : ∀ j : Nat, j < ns.length → ¬ rd G (j : Int) < rd ns (j : Int)) (hGl : G.length = ns.length)
    (hm : isLiftedP ns us = true → us.foldl (fun a x => wrap64 (a + x)) 0 ≥ m) : ∀ (d k i : Nat), i + d = ns.length → d + k0 < k → laws_FnLifted.l0 k ns m us G (i : Int) = some true := by
  have hl := rowOk_len hn
  intro d
  induction d with
  | zero =>
    intro k i hi hk
    obtain ⟨k, rfl⟩ : ∃ m, k = m + 1 := ⟨k - 1, by omega⟩
    simp only [laws_FnLifted.l0]
    rw [if_neg (by omega), implIsLifted_is k ns us (by omega), bind_some_]
    by_cases c : isLiftedP ns us = true
    · rw [if_pos c, b10Sum_is k us (by omega) (by omega), bind_some_, decide_eq_true (hm c)]
    · rw [if_neg c]
  | succ d ih =>
    intro k i hi hk
    obtain ⟨k, rfl⟩ : ∃ m, k = m + 1 := ⟨k - 1, by omega⟩
    simp only [laws_FnLifted.l0]
    rw [if_pos (by omega), if_pos (by omega), if_pos (by omega), if_neg (hG i (by omega)), w64s i (by omega)]
    exact ih k (i + 1) (by omega) (by omega)
theorem rowOk_mem {m : Int} {l : List Int} (h : rowOk m l = true) : ∀ v ∈ l, 0 ≤ v ∧ v ≤ m := by
  unfold rowOk at h
  rw [Bool.and_eq_true, List.all_eq_true] at h
  exact fun v hv => of_decide_eq_true (h.2 v hv)
theorem FnLifted : laws_FnLifted.Pure := by
  intro l0 l1 _ _ h0 _ _ h1
  by_cases c0 : (l0.length : Int) > 1048576
  · exact ⟨0, by unfold laws_FnLifted.f laws_b10Long.f; rw [if_pos c0]; rfl⟩
  by_cases c1 : (l1.length : Int) > 1048576
  · exact ⟨0, by unfold laws_FnLifted.f laws_b10Long.f; rw [if_neg c0, decide_eq_true c1]; rfl⟩
  refine ⟨5000, ?_⟩
  obtain ⟨ns, hns, hrow⟩ := b10Nd_is l0 h0 5000 (by omega)
  have hl := rowOk_len hrow
  have hv := rowOk_mem hrow
  obtain ⟨us, hus, hul⟩ := b10Pl_is l1 h1 ns (by omega) 5000 (by omega)
  have hsix := restU_all ns hl (fun x hx => (hv x hx).2)
  obtain ⟨gp, gs, gl, gv⟩ := goodU_is ns ns.length 0 0 hsix
  have hgr : rowOk 6 (goodU ns ns.length 0 0) = true := by
    unfold rowOk
    rw [Bool.and_eq_true, decide_eq_true_eq, List.all_eq_true]
    exact ⟨by omega, fun v hv => decide_eq_true (gv v hv)⟩
  have hmet := (lifted_plan gv gl hl.1).mpr gp
  have hsum := wfoldl_sum (goodU ns ns.length 0 0) 0 gv (by omega) (by omega)
  rw [Int.zero_add, gs] at hsum
  have hlp : isLiftedP ns (goodU ns ns.length 0 0) = true := by
    unfold isLiftedP
    rw [hrow, hgr, hmet, gl]
    simp
  unfold laws_FnLifted.f laws_b10Long.f
  rw [if_neg c0, decide_eq_false c1, bind_some_, if_neg (by decide), hns, bind_some_]
  unfold impl_LeastUnits.f
  rw [implNeedsRow_is, bind_some_, hrow, if_pos rfl, bind_some_, hus, bind_some_]
  dsimp only
  rw [implLiftsOf_is 5000 _ (by omega), bind_some_]
  unfold liftsPI
  rw [if_pos hgr]
  dsimp only
  rw [if_pos rfl, if_pos rfl, if_pos (by rw [liftsOf_len, gl]), b10Sum_is 5000 _ (by omega) (by omega), bind_some_, if_pos hsum, implIsLifted_is 5000 _ _ (by omega), bind_some_, hlp]
  show laws_FnLifted.j0 (4999 + 1) ns (restU ns ns.length 0 0) us (liftsOf (goodU ns ns.length 0 0)) false = some true
  simp only [laws_FnLifted.j0]
  rw [if_neg (by decide)]
  have := lifted_l0 ns us (restU ns ns.length 0 0) (liftsOf (goodU ns ns.length 0 0)) 1000 hrow (by omega) hul (fun j hj => (metGo_iff ns _ ns.length 0).mp hmet j (by omega) (by omega)) (by rw [liftsOf_len, gl]) (fun h => by
    unfold isLiftedP at h
    simp only [Bool.and_eq_true, decide_eq_true_eq] at h
    obtain ⟨⟨⟨_, h2⟩, h3⟩, h4⟩ := h
    have hv6 := rowOk_mem h2
    have hle := restU_le ns ns.length 0 0 us ((lifted_plan hv6 h3 hl.1).mp h4) hv6
    rw [wfoldl_sum us 0 hv6 (by omega) (by omega), Int.zero_add]
    exact hle) ns.length 4999 0 (by omega) (by omega)
  rw [show ((0 : Nat) : Int) = 0 from rfl] at this
  exact this

end Go.Proofs.Ytegjebiocgbmpaa.Pure
