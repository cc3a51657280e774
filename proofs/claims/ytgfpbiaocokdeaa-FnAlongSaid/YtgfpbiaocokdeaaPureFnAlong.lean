/- Along an axis, each ring has the class and the weight of its height, and is mixed exactly if its face has several classes; no condition. -/
import Derived.Test.YtgfpbiaocokdeaaCFnAlong4
import Derived.Test.YtgfpbiaocokdeaaCFnAlong0
import Derived.Test.YtgfpbiaocokdeaaCFnAlong2
import Derived.Test.YtgfpbiaocokdeaaCFnAlong3
namespace Go.Proofs.Ytgfpbiaocokdeaa.Pure
open Go.RowKit Go.Proofs.Ytgfpbiaocokdeaa.P Go.Proofs.YtgfpbiaocokdeaaW.PrintWords Go.Proofs.YtgfpbiaocokdeaaW.PrintLast Go.Proofs.YtgfpbiaocokdeaaW.PrintMore
set_option linter.unusedVariables false
set_option linter.unusedSimpArgs false
theorem walk_all : ∀ (cs : List S124) (n : Int) (p : S44), curvesOk cs n p = true → (walkT p (turnsOf cs)).all poseOk = true
  | [], _, _, _ => rfl
  | c :: cs, n, p, h => by
    rw [curvesOk_cons] at h
    simp only [Bool.and_eq_true] at h
    have ih := walk_all cs _ _ h.2.2
    simp only [turnsOf]
    rw [walkT_append, List.all_append, h.2.1, ih]
    rfl
theorem poses_all {p : S44} {cs : List S124} (h : axOk p cs = true) (i : Nat) (hi : i < (posesOf p cs).length) : poseOk (rd_T44 (posesOf p cs) (i : Int)) = true := by
  have hall : (posesOf p cs).all poseOk = true := by
    unfold axOk at h
    simp only [Bool.and_eq_true] at h
    unfold posesOf
    rw [List.all_cons, h.1, walk_all cs _ _ h.2.2]
    rfl
  rw [rdPose_at _ i hi]
  exact List.all_eq_true.mp hall _ (List.getElem_mem hi)
theorem poses_two {p : S44} {cs : List S124} (h : axOk p cs = true) : 2 ≤ (posesOf p cs).length := by
  unfold axOk at h
  simp only [Bool.and_eq_true, decide_eq_true_eq] at h
  obtain ⟨_, h2, h3⟩ := h
  cases cs with
  | nil => simp at h2
  | cons c cs =>
    rw [curvesOk_cons] at h3
    simp only [Bool.and_eq_true, decide_eq_true_eq] at h3
    obtain ⟨⟨h4, _⟩, _⟩ := h3
    unfold posesOf
    rw [List.length_cons, walkT_len]
    simp only [turnsOf, List.length_append, repsT, List.length_replicate]
    omega
theorem rd_along (g : Int → Int → Int) (P : List S44) : ∀ (d i j : Nat), j < d → rd (alongGo g P d i) (j : Int) = g ((i + j : Nat) : Int) (rd_T44 P ((i + j : Nat) : Int)).f1
  | 0, _, _, h => by omega
  | d + 1, i, 0, _ => by
    simp only [alongGo]
    rw [rd_at _ 0 (by simp)]
    rfl
  | d + 1, i, j + 1, h => by
    have ih := rd_along g P d (i + 1) j (by omega)
    have hl := alongGo_len g P d (i + 1)
    rw [rd_at _ j (by omega)] at ih
    simp only [alongGo]
    rw [rd_at _ (j + 1) (by rw [List.length_cons]; omega), List.getElem_cons_succ, ih, show i + 1 + j = i + (j + 1) by omega]
theorem mem_mixGo (ds : List Int) (hs : List S59) (P : List S44) (v : Nat) : ∀ d i : Nat, (v : Int) ∈ mixGo ds hs P d i ↔ i ≤ v ∧ v < i + d ∧ isMixed ds hs P v
  | 0, i => by simp only [mixGo, List.not_mem_nil, false_iff]; omega
  | d + 1, i => by
    have ih := mem_mixGo ds hs P v d (i + 1)
    simp only [mixGo]
    by_cases c : isMixed ds hs P i
    · rw [if_pos c, List.mem_cons, ih]
      constructor
      · rintro (e | ⟨a, b, e⟩)
        · have : v = i := by omega
          subst this
          exact ⟨Nat.le_refl _, by omega, c⟩
        · exact ⟨by omega, by omega, e⟩
      · rintro ⟨a, b, e⟩
        by_cases q : v = i
        · left; omega
        · right; exact ⟨by omega, by omega, e⟩
    · rw [if_neg c, ih]
      constructor
      · rintro ⟨a, b, e⟩
        exact ⟨by omega, by omega, e⟩
      · rintro ⟨a, b, e⟩
        refine ⟨?_, by omega, e⟩
        by_cases q : v = i
        · subst q; exact absurd e c
        · omega
theorem along_l1 (N : Int) (C W M : List Int) (i : Nat) (hi : i ≤ 1000) (f ds : List Int) (hs : List S59) (a b u v : Int) (cs : List S124) (hf : ds.length ≤ f.length) (hd : ds.length ≤ 1000) (hM : M.length ≤ 1000) (K : Nat) (hK : 2000 < K) (hq : decide ((i : Int) ∈ M) = decide (cntGo f ds.length 0 0 > 1)) : ∀ (d j : Nat) (c : Int), j + d = ds.length → cntGo f d j c = cntGo f ds.length 0 0 → laws_FnAlong.l1 (K + d + 1) N C W M i f c (j : Int) ds hs a b u v cs = laws_FnAlong.l0 K N C W M ((i + 1 : Nat) : Int) ds hs a b u v cs
  | 0, j, c, hj, hc => by
    simp only [cntGo] at hc
    simp only [laws_FnAlong.l1, Nat.add_zero]
    rw [if_neg (by omega), r8Has_is K M (i : Int) (by omega) (by omega), bind_some_, hc, hq, bne_self_eq_false, if_neg (by simp), w64s i (by omega)]
  | d + 1, j, c, hj, hc => by
    simp only [cntGo] at hc
    have ih := along_l1 N C W M i hi f ds hs a b u v cs hf hd hM K hK hq d (j + 1) _ (by omega) hc
    have hw := w64s j (by omega)
    rw [show K + (d + 1) + 1 = (K + d + 1) + 1 by omega]
    simp only [laws_FnAlong.l1]
    rw [if_pos (by omega), if_pos (by omega), if_pos (by omega), hw]
    by_cases h : rd f (j : Int) > 0
    · rw [if_pos h] at ih ⊢
      exact ih
    · rw [if_neg h] at ih ⊢
      exact ih
theorem along_l0 (ds : List Int) (hs : List S59) (a b u v : Int) (cs : List S124) (hg : grOk ds hs = true) (ha : axOk ⟨a, b, u, v⟩ cs = true) (hp : shortH hs) (hb : cs.length ≤ 1048576) (F : Nat) (hF : 8000000 < F) : ∀ (d k i : Nat), i + d + 1 = (posesOf ⟨a, b, u, v⟩ cs).length → 20 * d + F < k →
    laws_FnAlong.l0 k (((posesOf ⟨a, b, u, v⟩ cs).length : Int) - 1) (classesOf hs (posesOf ⟨a, b, u, v⟩ cs)) (prognosisOf ds hs (posesOf ⟨a, b, u, v⟩ cs)) (mixedOf ds hs (posesOf ⟨a, b, u, v⟩ cs)) (i : Int) ds hs a b u v cs = some true
  | 0, k, i, hi, hk => by
    obtain ⟨k, rfl⟩ : ∃ m, k = m + 1 := ⟨k - 1, by omega⟩
    simp only [laws_FnAlong.l0]
    rw [if_neg (by omega)]
  | d + 1, k, i, hi, hk => by
    have hg4 := (grOk_in hg).1
    have hlen := posesOf_len ha
    have hpo := poses_all ha i (by omega)
    obtain ⟨K, rfl⟩ : ∃ m, k = (m + ds.length + 1) + 1 + 1 := ⟨k - ds.length - 3, by omega⟩
    have ih := along_l0 ds hs a b u v cs hg ha hp hb F hF d K (i + 1) (by omega) (by omega)
    have hP1 := implAxis_is (K + ds.length + 1 + 1) a b u v cs hb (by omega)
    rw [if_pos ha] at hP1
    have hM := mixGo_len ds hs (posesOf ⟨a, b, u, v⟩ cs) ((posesOf ⟨a, b, u, v⟩ cs).length - 1) 0
    have hC := alongGo_len (fun a h => classOf (topsAt hs a) h) (posesOf ⟨a, b, u, v⟩ cs) ((posesOf ⟨a, b, u, v⟩ cs).length - 1) 0
    have hWl := alongGo_len (fun a h => weightOf ds hs a h) (posesOf ⟨a, b, u, v⟩ cs) ((posesOf ⟨a, b, u, v⟩ cs).length - 1) 0
    have hc := rd_along (fun a h => classOf (topsAt hs a) h) (posesOf ⟨a, b, u, v⟩ cs) ((posesOf ⟨a, b, u, v⟩ cs).length - 1) 0 i (by omega)
    have hw := rd_along (fun a h => weightOf ds hs a h) (posesOf ⟨a, b, u, v⟩ cs) ((posesOf ⟨a, b, u, v⟩ cs).length - 1) 0 i (by omega)
    have hm := mem_mixGo ds hs (posesOf ⟨a, b, u, v⟩ cs) i ((posesOf ⟨a, b, u, v⟩ cs).length - 1) 0
    rw [Nat.zero_add] at hc hw
    have hq : decide ((i : Int) ∈ mixedOf ds hs (posesOf ⟨a, b, u, v⟩ cs)) = decide (cntGo (faceOf (topsAt hs i) (rd_T44 (posesOf ⟨a, b, u, v⟩ cs) (i : Int)).f1) ds.length 0 0 > 1) := by
      refine decide_eq_decide.mpr ?_
      unfold mixedOf
      rw [hm]
      unfold isMixed
      constructor
      · rintro ⟨_, _, h⟩; omega
      · intro h; exact ⟨by omega, by omega, by omega⟩
    have hfl := faceOf_len (topsAt hs i) (rd_T44 (posesOf ⟨a, b, u, v⟩ cs) (i : Int)).f1
    rw [topsAt_len hg] at hfl
    generalize hPP : posesOf ⟨a, b, u, v⟩ cs = P at *
    unfold poseOk at hpo
    simp only [Bool.and_eq_true, decide_eq_true_eq] at hpo
    have hpl : placeOk (i : Int) (rd_T44 P (i : Int)).f1 = true := by
      unfold placeOk
      simp only [Bool.and_eq_true, decide_eq_true_eq]
      omega
    have hl1 := along_l1 ((P.length : Int) - 1) (classesOf hs P) (prognosisOf ds hs P) (mixedOf ds hs P) i (by omega) (faceOf (topsAt hs i) (rd_T44 P (i : Int)).f1) ds hs a b u v cs (by omega) (by omega) (by unfold mixedOf; omega) K (by omega) hq ds.length 0 0 (by omega) rfl
    have e1 : wrap64 ((P.length : Int) - 1) = (P.length : Int) - 1 := w64 _ (by omega) (by omega)
    have e2 : wrap64 ((ds.length : Int) + 1) = ((ds.length + 1 : Nat) : Int) := w64s _ (by omega)
    have hPose : impl_PoseAt.f (K + ds.length + 1 + 1) a b u v cs (i : Int) = some ((rd_T44 P (i : Int)).f0, (rd_T44 P (i : Int)).f1, (rd_T44 P (i : Int)).f2, (rd_T44 P (i : Int)).f3, true) := by
      unfold impl_PoseAt.f
      rw [hP1, bind_some_]
      dsimp only
      rw [if_pos rfl, within_is, bind_some_, e1, if_pos (decide_eq_true (by omega)), if_pos (by omega), if_pos (by omega)]
    have hClass : impl_ClassAt.f (K + ds.length + 1 + 1) ds hs (i : Int) (rd_T44 P (i : Int)).f1 = some (classOf (topsAt hs i) (rd_T44 P (i : Int)).f1, true) := by
      unfold impl_ClassAt.f
      rw [implGround_is _ ds hs hp (by clear e1 e2; omega), bind_some_, if_pos hg, implPlace_is, bind_some_, if_pos hpl, implClass_is _ ds hs _ _ hg (by clear e1 e2; omega), bind_some_]
    clear e1
    simp only [laws_FnAlong.l0]
    rw [if_pos (by omega), hPose, bind_some_]
    dsimp only
    rw [hClass, bind_some_, implWeightOf_is _ ds hs _ _ hp (by clear e2; omega), bind_some_, implFaceOf_is _ ds hs _ _ hp (by clear e2; omega), bind_some_]
    unfold weightP faceP
    rw [hg, hpl, Bool.and_self, if_pos rfl, if_pos rfl]
    dsimp only
    have h1 : rd (classesOf hs P) (i : Int) = classOf (topsAt hs i) (rd_T44 P (i : Int)).f1 := hc
    have h2 : rd (prognosisOf ds hs P) (i : Int) = weightOf ds hs i (rd_T44 P (i : Int)).f1 := hw
    have h3 : (classesOf hs P).length = P.length - 1 := hC
    have h4 : (prognosisOf ds hs P).length = P.length - 1 := hWl
    rw [if_pos rfl, if_pos rfl, if_pos rfl, if_pos rfl, if_pos (by clear e2; omega), if_pos (by clear e2; omega), if_pos h1, if_pos (by clear e2; omega), if_pos h2, hfl, e2, bne_self_eq_false]
    simp only [laws_FnAlong.j2]
    rw [if_neg (by simp)]
    exact hl1.trans ih
theorem FnAlong : laws_FnAlong.Pure := by
  intro c m _ _ hc _ _ hm
  obtain ⟨F, hF⟩ : ∃ F, F = 8000001 := ⟨_, rfl⟩
  obtain ⟨G, hG⟩ : ∃ G, G = F + 3000 := ⟨_, rfl⟩
  refine ⟨G + 1, ?_⟩
  unfold laws_FnAlong.f laws_r8Long.f
  by_cases h1 : (c.length : Int) > 48
  · rw [if_pos h1, bind_some_, if_pos rfl]
  · rw [if_neg h1, bind_some_]
    by_cases h2 : (m.length : Int) > 48
    · rw [if_pos (by simpa using h2)]
    · obtain ⟨ds, hs, q1, hg⟩ := drawGround_is c hc (G + 1) (by omega)
      obtain ⟨a, b, u, v, cs, q2, ha⟩ := drawAxis_is m hm (G + 1) (by omega)
      have hgi := grOk_in hg
      have hlen := posesOf_len ha
      have htwo := poses_two ha
      have hcs : cs.length ≤ 1048576 := by
        have := ha
        unfold axOk at this
        simp only [Bool.and_eq_true, decide_eq_true_eq] at this
        omega
      have hp : shortH hs := ⟨by omega, fun h hh => by
        obtain ⟨i, hi, rfl⟩ := List.getElem_of_mem hh
        have := hgi.2.2.2 i hi
        unfold holeOk topsOk at this
        rw [rdHole_at hs i hi] at this
        simp only [Bool.and_eq_true, decide_eq_true_eq] at this
        omega⟩
      have hC := alongGo_len (fun a h => classOf (topsAt hs a) h) (posesOf ⟨a, b, u, v⟩ cs) ((posesOf ⟨a, b, u, v⟩ cs).length - 1) 0
      have hW := alongGo_len (fun a h => weightOf ds hs a h) (posesOf ⟨a, b, u, v⟩ cs) ((posesOf ⟨a, b, u, v⟩ cs).length - 1) 0
      have hl0 := along_l0 ds hs a b u v cs hg ha hp hcs F (by omega) ((posesOf ⟨a, b, u, v⟩ cs).length - 1) G 0 (by omega) (by omega)
      have e1 : wrap64 (((posesOf ⟨a, b, u, v⟩ cs).length : Int) - 1) = ((posesOf ⟨a, b, u, v⟩ cs).length : Int) - 1 := w64 _ (by omega) (by omega)
      have hR : impl_RingsOf.f (G + 1) a b u v cs = some (((posesOf ⟨a, b, u, v⟩ cs).length : Int) - 1, true) := by
        unfold impl_RingsOf.f
        rw [implAxis_is _ a b u v cs hcs (by omega), bind_some_, if_pos ha]
        dsimp only
        rw [if_pos rfl, e1]
      clear e1
      rw [if_neg (by simpa using h2), q1, bind_some_]
      dsimp only
      rw [q2, bind_some_]
      dsimp only
      rw [hR, bind_some_, implClasses_is _ ds hs a b u v cs hp hcs (by omega), bind_some_, implPrognosis_is _ ds hs a b u v cs hp hcs (by omega), bind_some_, implMixed_is _ ds hs a b u v cs hp hcs (by omega), bind_some_]
      unfold alongP
      rw [hg, ha, Bool.and_self, if_pos rfl, if_pos rfl, if_pos rfl]
      dsimp only
      have h3 : (classesOf hs (posesOf ⟨a, b, u, v⟩ cs)).length = (posesOf ⟨a, b, u, v⟩ cs).length - 1 := hC
      have h4 : (prognosisOf ds hs (posesOf ⟨a, b, u, v⟩ cs)).length = (posesOf ⟨a, b, u, v⟩ cs).length - 1 := hW
      rw [if_pos rfl, if_pos rfl, if_pos rfl, if_pos rfl, if_neg (by omega), if_neg (by omega), if_pos (by omega)]
      simp only [laws_FnAlong.j0]
      rw [if_neg (by simp only [bne_iff_ne, ne_eq, Decidable.not_not]; omega)]
      exact hl0

end Go.Proofs.Ytgfpbiaocokdeaa.Pure
