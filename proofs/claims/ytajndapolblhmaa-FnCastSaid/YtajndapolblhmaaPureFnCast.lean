/- With the fewest moulds there are no short days, with one mould fewer the told day is short, casting can be put off by the latest start and not by one day more, and there is never less than nothing in stock; no condition. -/
import Derived.Test.YtajndapolblhmaaCFnCast1
import Derived.Test.YtajndapolblhmaaCFnCast0
namespace Go.Proofs.Ytajndapolblhmaa.Pure
open Go.RowKit Go.Proofs.Ytajndapolblhmaa.P Go.Proofs.YtajndapolblhmaaW.PrintWords Go.Proofs.YtajndapolblhmaaW.PrintLast Go.Proofs.YtajndapolblhmaaW.PrintMore
set_option linter.unusedVariables false
set_option linter.unusedSimpArgs false
theorem FnCast : laws_FnCast.Pure := by
  intro l more _ _ hl _ _ hmore
  refine ⟨900, ?_⟩
  unfold laws_FnCast.f laws_b10Long.f
  by_cases h1 : (l.length : Int) > 1048576
  · rw [if_pos h1, bind_some_, if_pos rfl]
  · rw [if_neg h1, bind_some_]
    by_cases h2 : (more.length : Int) > 1048576
    · rw [if_pos (by simpa using h2)]
    · rw [if_neg (by simpa using h2)]
      obtain ⟨r, b, c, hr, hv, hlen, hf, hb, hc⟩ := drawOrders_is l hl 900 (by omega)
      rw [hr]
      simp only [bind_some_]
      have hrh : rhOk b c = true := by unfold rhOk; simp only [Bool.and_eq_true, decide_eq_true_eq]; omega
      have mem : ∀ o ∈ r, orFine o := by
        intro o ho
        obtain ⟨i, hi, rfl⟩ := List.getElem_of_mem ho
        have := hf i hi
        rwa [rdOrder_at r i hi] at this
      have hcast : ∀ o ∈ r, 1 ≤ castOf b c o.f0 ∧ castOf b c o.f0 ≤ 1000 := by
        intro o ho
        have hm := mem o ho
        have h3 := castOf_in hrh (show -1000 ≤ o.f0 ∧ o.f0 ≤ 1000 by have := hm.1; omega)
        refine ⟨?_, h3.2⟩
        unfold castOf
        rw [if_neg (by have := hm.1; omega)]
        have := hm.1
        exact (Int.le_ediv_iff_mul_le (by omega)).2 (by omega)
      have hc1 : ∀ o ∈ r, 1 ≤ castOf b c o.f0 := fun o ho => (hcast o ho).1
      have hf1 : ∀ o ∈ r, 0 ≤ o.f1 ∧ o.f1 ≤ 12 := fun o ho => by have := (mem o ho).2; omega
      have hle := fmMax_le b c 200 r 0 0 0 hcast hf1 (by omega) (by omega) (by omega)
      obtain ⟨M, hM⟩ : ∃ M, M = (fmMax b c 0 0 0 r).1 := ⟨_, rfl⟩
      obtain ⟨D, hD⟩ : ∃ D, D = (fmMax b c 0 0 0 r).2 := ⟨_, rfl⟩
      have hfm : fmOf b c r = (M, D, true) := by
        unfold fmOf
        rw [if_pos ⟨hrh, hv, by omega⟩, fmGo_eq b c r 0 0 0 (fun o ho => by have := hc1 o ho; omega), if_neg (by omega), hM, hD]
      have hM1 : 1 ≤ M := by
        obtain ⟨o, t, rfl⟩ : ∃ o t, r = o :: t := by
          cases r with
          | nil => simp at hlen
          | cons o t => exact ⟨o, t, rfl⟩
        have ho := mem o (by simp)
        have hn : ¬ fmNeed (0 + o.f1) (castOf b c o.f0) ≤ 0 := by
          rw [ceil_le _ _ _ (hc1 o (by simp))]
          have := ho.2
          omega
        have hge := fmMax_ge b c t (fmNeed (0 + o.f1) (castOf b c o.f0)) o.f0 (0 + o.f1)
        rw [hM]
        simp only [fmMax]
        rw [if_pos (by omega)]
        omega
      have hs0 : shortOf M b c 0 r = [] := short_nil b c M r 0 0 0 hc1 (by rw [hM]; exact Int.le_refl _)
      have hmem : 1 < M → D ∈ shortOf (M - 1) b c 0 r := by
        intro h
        rw [hM, hD]
        exact short_mem b c r 0 0 0 hc1 (by omega)
      have hw : wkOk M b c = true := by unfold wkOk; rw [hrh, Bool.and_true]; exact decide_eq_true (by omega)
      obtain ⟨s, hs1, hs2, hs3, hs4⟩ := lat_facts M b c r hs0 200
      have hlat : latOf M b c r = ((s : Int), true) := by unfold latOf; rw [if_pos ⟨hw, hv⟩, hs1]
      obtain ⟨day, hday, d1, d2⟩ := b10At_in more hmore 0 201 (by omega) (by omega)
      have hsh : isShortBy M b c r day = false := by unfold isShortBy; rw [hs0]
      have hcd := castOf_in hrh (show -1000 ≤ day ∧ day ≤ 1000 by omega)
      have hmm := mul200 (show 1 ≤ M ∧ M ≤ 200 by omega) hcd
      have hstock : 0 ≤ stockGo day (M * castOf b c day) r := by
        have := stock_ok M b c day (by omega) (by omega) (by omega) r 0 0 hf1 hs0 (by omega) (by omega) (by omega)
        rwa [Int.sub_zero] at this
      have hst : stockOf M b c r day = (stockGo day (M * castOf b c day) r, true) := by
        unfold stockOf
        rw [if_pos ⟨hw, hv, by omega⟩, if_neg (by rw [hsh]; simp)]
      have hlater : ∀ t : Int, shortOf M b (c + t) 0 r = shortOf M b c t r := fun t => short_shift M b c t r 0
      rw [implMoulds_is _ b c r (by omega) (by omega), hfm]
      simp only [bind_some_, if_true]
      rw [implShortDays_is _ M b c r (by omega) (by omega), if_pos ⟨hw, hv⟩, implLatest_is _ M b c r (by omega) (by omega), hlat, hday]
      simp only [bind_some_]
      rw [implStock_is _ M b c r day (by omega) (by omega), hst]
      simp only [bind_some_, if_true, hs0, List.length_nil]
      rw [if_pos (by omega), if_neg (by omega), decide_eq_false (by omega)]
      have j2 : ∀ (k : Nat) (cu : Int), 20 ≤ k → cu = c + s → cu ≤ 40 → laws_FnCast.j2 k r s false M b cu = some true := by
        intro k cu hk hcu hcu2
        obtain ⟨k, rfl⟩ : ∃ m, k = m + 1 := ⟨k - 1, by omega⟩
        simp only [laws_FnCast.j2]
        rw [if_neg (by simp), w64 (cu + 1) (by omega) (by omega)]
        by_cases g1 : cu + 1 ≤ 40
        · rw [if_pos g1]
          by_cases g2 : (s : Int) < 200
          · have hw2 : wkOk M b (cu + 1) = true := by unfold wkOk rhOk; simp only [Bool.and_eq_true, decide_eq_true_eq]; omega
            rw [if_pos g2, implShortDays_is _ M b _ r (by omega) (by omega), if_pos ⟨hw2, hv⟩]
            simp only [bind_some_, if_true]
            have hne := hs4 (s + 1) (by omega) (by omega)
            have e2 : shortOf M b (cu + 1) 0 r = shortOf M b c ((s + 1 : Nat) : Int) r := by
              rw [← hlater, hcu, show c + (s : Int) + 1 = c + ((s + 1 : Nat) : Int) by omega]
            rw [e2]
            cases hx : shortOf M b c ((s + 1 : Nat) : Int) r with
            | nil => exact absurd hx hne
            | cons x t => simp
          · rw [if_neg g2]
        · rw [if_neg g1]
      have j1 : ∀ (k : Nat), 30 ≤ k → laws_FnCast.j1 k r b c M s = some true := by
        intro k hk
        obtain ⟨k, rfl⟩ : ∃ m, k = m + 1 := ⟨k - 1, by omega⟩
        simp only [laws_FnCast.j1]
        rw [w64 (c + (s : Int)) (by omega) (by omega)]
        by_cases g1 : c + (s : Int) ≤ 40
        · have hw2 : wkOk M b (c + s) = true := by unfold wkOk rhOk; simp only [Bool.and_eq_true, decide_eq_true_eq]; omega
          rw [if_pos g1, implShortDays_is _ M b _ r (by omega) (by omega), if_pos ⟨hw2, hv⟩]
          simp only [bind_some_, if_true]
          rw [hlater, hs3]
          exact j2 k (c + s) (by omega) rfl g1
        · rw [if_neg g1, w64 (c + (s : Int) + 1) (by omega) (by omega), if_neg (by omega)]
      simp only [laws_FnCast.j0]
      rw [if_neg (by simp)]
      by_cases g : M > 1
      · have hw2 : wkOk (M - 1) b c = true := by unfold wkOk; rw [hrh, Bool.and_true]; exact decide_eq_true (by omega)
        rw [if_pos g, w64 (M - 1) (by omega) (by omega), implShortDays_is _ (M - 1) b c r (by omega) (by omega), if_pos ⟨hw2, hv⟩]
        simp only [bind_some_, if_true]
        have hlen2 := shortGo_len (M - 1) b c 0 r 0
        have hlen3 : (shortOf (M - 1) b c 0 r).length ≤ r.length := hlen2
        rw [b10Has_is _ _ D (by omega) (by omega), bind_some_, decide_eq_true (hmem (by omega)), if_pos rfl]
        exact j1 _ (by omega)
      · rw [if_neg g]
        exact j1 _ (by omega)

end Go.Proofs.Ytajndapolblhmaa.Pure
