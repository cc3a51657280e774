/- What the claim of FnExactClassesAlong bears, part 5: functions of the program as plain Lean functions, with proofs that the code comes to their answers, and lemmas on them. -/
import Derived.Test.YtgfpbiaocokdeaaCFnExactClassesAlong4
import Derived.Test.YtgfpbiaocokdeaaCFnExactClassesAlong0
import Derived.Test.YtgfpbiaocokdeaaCFnExactClassesAlong3
import Derived.Test.YtgfpbiaocokdeaaCFnExactClassesAlong1
set_option linter.unusedVariables false
set_option linter.unusedSimpArgs false
/- The poses of an axis, as the reference reckons them. -/
namespace Go.Proofs.Ytgfpbiaocokdeaa.P
open Go.RowKit Go.Proofs.Ytgfpbiaocokdeaa.P Go.Proofs.YtgfpbiaocokdeaaW.PrintWords Go.Proofs.YtgfpbiaocokdeaaW.PrintLast Go.Proofs.YtgfpbiaocokdeaaW.PrintMore
set_option linter.unusedVariables false
set_option linter.unusedSimpArgs false
theorem specAx_l1 (a b u v : Int) (cs : List S124) (n : Int) (c : S124) (h1 : 1 ≤ c.f0) (i : Int) : ∀ (d k j : Nat) (p : S44), j + d = c.f0.toNat → c.f0 ≤ 60 → d < k → spec_l02Is.l1 k n i j a b u v cs p.f0 p.f1 p.f2 p.f3 c.f0 c.f1 c.f2 = if (walkT p (repsT d c)).all poseOk = true then spec_l02Is.l0 (k - (d + 1)) n (wrap64 (i + 1)) a b u v cs (endT p (repsT d c)).f0 (endT p (repsT d c)).f1 (endT p (repsT d c)).f2 (endT p (repsT d c)).f3 else some false := by
  intro d
  induction d with
  | zero =>
    intro k j p hj h60 hk
    obtain ⟨k, rfl⟩ : ∃ m, k = m + 1 := ⟨k - 1, by omega⟩
    simp only [spec_l02Is.l1]
    rw [if_neg (by omega)]
    simp [repsT, walkT, endT]
  | succ d ih =>
    intro k j p hj h60 hk
    obtain ⟨k, rfl⟩ : ∃ m, k = m + 1 := ⟨k - 1, by omega⟩
    simp only [spec_l02Is.l1, spec_l02Next.f, bind_some_, specPose_is]
    rw [if_pos (by omega), repsT_succ]
    have hq : nextP p ⟨1, c.f1, c.f2⟩ = ⟨wrap64 (p.f0 + p.f2), wrap64 (p.f1 + p.f3), wrap64 (p.f2 + c.f1), wrap64 (p.f3 + c.f2)⟩ := rfl
    simp only [walkT, endT, List.all_cons, Bool.and_eq_true]
    have hz := ih k (j + 1) (nextP p ⟨1, c.f1, c.f2⟩) (by omega) h60 (by omega)
    rw [← hq]
    by_cases q : poseOk (nextP p ⟨1, c.f1, c.f2⟩) = true
    · rw [if_pos q, w64s j (by omega)]
      have e : spec_l02Is.l1 k n i ((j + 1 : Nat) : Int) a b u v cs (wrap64 (p.f0 + p.f2)) (wrap64 (p.f1 + p.f3)) (wrap64 (p.f2 + c.f1)) (wrap64 (p.f3 + c.f2)) c.f0 c.f1 c.f2 = spec_l02Is.l1 k n i ((j + 1 : Nat) : Int) a b u v cs (nextP p ⟨1, c.f1, c.f2⟩).f0 (nextP p ⟨1, c.f1, c.f2⟩).f1 (nextP p ⟨1, c.f1, c.f2⟩).f2 (nextP p ⟨1, c.f1, c.f2⟩).f3 c.f0 c.f1 c.f2 := rfl
      rw [e, hz]
      simp only [q, true_and, Nat.add_sub_add_right]
    · rw [if_neg q, if_neg (by simp [q])]
theorem specAx_l0 (a b u v : Int) (cs : List S124) (h8 : cs.length ≤ 8) : ∀ (d k i : Nat) (n : Int) (p : S44), i + d = cs.length → 100 * d + 2 < k → 0 ≤ n → n ≤ 60 → spec_l02Is.l0 k n i a b u v cs p.f0 p.f1 p.f2 p.f3 = some (curvesOk (cs.drop i) n p) := by
  intro d
  induction d with
  | zero =>
    intro k i n p hi hk hn hn2
    obtain ⟨k, rfl⟩ : ∃ m, k = m + 1 := ⟨k - 1, by omega⟩
    simp only [spec_l02Is.l0]
    rw [if_neg (by omega), List.drop_of_length_le (by omega)]
    simp [curvesOk]
  | succ d ih =>
    intro k i n p hi hk hn hn2
    obtain ⟨k, rfl⟩ : ∃ m, k = m + 2 := ⟨k - 2, by omega⟩
    rw [dropCurve_at cs i (by omega)]
    generalize hc : rd_T124 cs (i : Int) = c
    simp only [spec_l02Is.l0, curvesOk]
    rw [if_pos (by omega), if_pos (by omega), hc, w64 (60 - n) (by omega) (by omega), in_is, bind_some_, specTurn_is, bind_some_]
    by_cases c1 : 1 ≤ c.f0 ∧ c.f0 ≤ 60 - n
    · rw [if_pos (decide_eq_true c1), decide_eq_true c1, Bool.true_and]
      cases c2 : turnOk c.f1 c.f2 with
      | false =>
        simp only [spec_l02Is.j2]
        rw [if_pos (by simp), Bool.false_and]
      | true =>
        simp only [spec_l02Is.j2]
        have hz := specAx_l1 a b u v cs (wrap64 (n + c.f0)) c c1.1 i c.f0.toNat k 0 p (by omega) (by omega) (by omega)
        rw [show ((0 : Nat) : Int) = 0 from rfl] at hz
        rw [if_neg (by simp), hz, Bool.true_and]
        by_cases q : (walkT p (repsT c.f0.toNat c)).all poseOk = true
        · rw [if_pos q, q, Bool.true_and, w64s i (by omega), w64 (n + c.f0) (by omega) (by omega)]
          exact ih (k - (c.f0.toNat + 1)) (i + 1) (n + c.f0) _ (by omega) (by omega) (by omega) (by omega)
        · rw [if_neg q]
          simp only [Bool.not_eq_true] at q
          rw [q, Bool.false_and]
    · simp only [spec_l02Is.j2]
      rw [if_neg (by simpa using c1), if_pos trivial, decide_eq_false c1, Bool.false_and, Bool.false_and]
theorem specAxis_is (k : Nat) (a b u v : Int) (cs : List S124) (hb : cs.length ≤ 1048576) (hk : 5000 < k) : spec_l02Is.f k a b u v cs = some (axOk ⟨a, b, u, v⟩ cs) := by
  obtain ⟨k, rfl⟩ : ∃ m, k = m + 1 := ⟨k - 1, by omega⟩
  unfold spec_l02Is.f axOk
  rw [specPose_is, bind_some_, in_is, bind_some_]
  by_cases c1 : poseOk ⟨a, b, u, v⟩ = true
  · rw [if_pos c1, c1, Bool.true_and]
    by_cases c2 : 1 ≤ (cs.length : Int) ∧ (cs.length : Int) ≤ 8
    · simp only [spec_l02Is.j0]
      rw [decide_eq_true c2, if_neg (by simp), Bool.true_and]
      have hz := specAx_l0 a b u v cs (by omega) cs.length k 0 0 ⟨a, b, u, v⟩ (by omega) (by omega) (by omega) (by omega)
      simpa using hz
    · simp only [spec_l02Is.j0]
      rw [decide_eq_false c2, if_pos (by simp), Bool.false_and]
  · simp only [spec_l02Is.j0]
    simp only [Bool.not_eq_true] at c1
    rw [c1, if_neg (by simp), if_pos trivial, Bool.false_and]
theorem specTurns_l1 (a b u v : Int) (cs : List S124) (i : Nat) (hi : i < cs.length) (h8 : cs.length ≤ 8) (h60 : ∀ c ∈ cs, 1 ≤ c.f0 ∧ c.f0 ≤ 60) : ∀ (d k j : Nat) (acc : List S124), j + d = (rd_T124 cs (i : Int)).f0.toNat → d < k → acc.length + d ≤ 10000 → spec_l02Turns.l1 k acc i j a b u v cs = spec_l02Turns.l0 (k - (d + 1)) (acc ++ repsT d (rd_T124 cs (i : Int))) ((i + 1 : Nat) : Int) a b u v cs := by
  intro d
  have hm : 1 ≤ (rd_T124 cs (i : Int)).f0 ∧ (rd_T124 cs (i : Int)).f0 ≤ 60 := by
    rw [rdCurve_at cs i hi]
    exact h60 _ (List.getElem_mem hi)
  induction d with
  | zero =>
    intro k j acc hj hk hl
    obtain ⟨k, rfl⟩ : ∃ m, k = m + 1 := ⟨k - 1, by omega⟩
    simp only [spec_l02Turns.l1]
    rw [if_pos (by omega), if_pos (by omega), if_neg (by omega), w64s i (by omega)]
    simp [repsT]
  | succ d ih =>
    intro k j acc hj hk hl
    obtain ⟨k, rfl⟩ : ∃ m, k = m + 1 := ⟨k - 1, by omega⟩
    simp only [spec_l02Turns.l1]
    rw [if_pos (by omega), if_pos (by omega), if_pos (by omega), if_pos (by omega), w64s j (by omega), ih k (j + 1) _ (by omega) (by omega) (by simp; omega), repsT_succ]
    simp only [List.append_assoc, List.singleton_append, Nat.add_sub_add_right]
theorem specTurns_l0 (a b u v : Int) (cs : List S124) (h8 : cs.length ≤ 8) (h60 : ∀ c ∈ cs, 1 ≤ c.f0 ∧ c.f0 ≤ 60) : ∀ (d k i : Nat) (acc : List S124), i + d = cs.length → 100 * d + 2 < k → acc.length ≤ 60 * i → spec_l02Turns.l0 k acc i a b u v cs = some (acc ++ turnsOf (cs.drop i)) := by
  intro d
  induction d with
  | zero =>
    intro k i acc hi hk hl
    obtain ⟨k, rfl⟩ : ∃ m, k = m + 1 := ⟨k - 1, by omega⟩
    simp only [spec_l02Turns.l0]
    rw [if_neg (by omega), List.drop_of_length_le (by omega)]
    simp [turnsOf]
  | succ d ih =>
    intro k i acc hi hk hl
    obtain ⟨k, rfl⟩ : ∃ m, k = m + 1 := ⟨k - 1, by omega⟩
    have hm : 1 ≤ (rd_T124 cs (i : Int)).f0 ∧ (rd_T124 cs (i : Int)).f0 ≤ 60 := by
      rw [rdCurve_at cs i (by omega)]
      exact h60 _ (List.getElem_mem (by omega))
    have e3 : (repsT (rd_T124 cs (i : Int)).f0.toNat (rd_T124 cs (i : Int))).length = (rd_T124 cs (i : Int)).f0.toNat := by simp [repsT]
    have hz := specTurns_l1 a b u v cs i (by omega) h8 h60 (rd_T124 cs (i : Int)).f0.toNat k 0 acc (by omega) (by omega) (by omega)
    rw [show ((0 : Nat) : Int) = 0 from rfl] at hz
    simp only [spec_l02Turns.l0]
    rw [if_pos (by omega), hz, ih _ (i + 1) _ (by omega) (by omega) (by rw [List.length_append]; omega), dropCurve_at cs i (by omega)]
    simp only [turnsOf, List.append_assoc]
theorem specPoses_l0 (ts : List S124) (hb : ts.length ≤ 10000) : ∀ (d k i : Nat) (pre : List S44) (p : S44), i + d = ts.length → d < k → pre.length = i → spec_l02Poses.l0 k (pre ++ [p]) ts i = some (pre ++ p :: walkT p (ts.drop i)) := by
  intro d
  induction d with
  | zero =>
    intro k i pre p hi hk hl
    obtain ⟨k, rfl⟩ : ∃ m, k = m + 1 := ⟨k - 1, by omega⟩
    simp only [spec_l02Poses.l0]
    rw [if_neg (by omega), List.drop_of_length_le (by omega)]
    simp [walkT]
  | succ d ih =>
    intro k i pre p hi hk hl
    obtain ⟨k, rfl⟩ : ∃ m, k = m + 1 := ⟨k - 1, by omega⟩
    have hlen : (pre ++ [p]).length = pre.length + 1 := by simp
    have er := rdPose_last pre p
    rw [hl] at er
    have hz := ih k (i + 1) (pre ++ [p]) (nextP p (rd_T124 ts (i : Int))) (by omega) (by omega) (by omega)
    simp only [spec_l02Poses.l0, er, spec_l02Next.f, bind_some_]
    rw [if_pos (by omega), if_pos (by omega), if_pos (by omega), if_pos (by omega), w64s i (by omega), dropCurve_at ts i (by omega)]
    unfold nextP at hz
    rw [hz]
    simp [walkT, nextP]
theorem specPoses_is (k : Nat) (a b u v : Int) (cs : List S124) (h : axOk ⟨a, b, u, v⟩ cs = true) (hk : 5000 < k) : spec_l02Poses.f k a b u v cs = some (posesOf ⟨a, b, u, v⟩ cs) := by
  unfold axOk at h
  simp only [Bool.and_eq_true, decide_eq_true_eq] at h
  obtain ⟨_, h8, h3⟩ := h
  obtain ⟨i1, i2⟩ := curves_short cs 0 _ (by omega) h3
  have i3 := i2 (by omega)
  unfold spec_l02Poses.f spec_l02Turns.f posesOf
  have hz := specTurns_l0 a b u v cs (by omega) i1 cs.length k 0 [] (by omega) (by omega) (by simp)
  rw [show ((0 : Nat) : Int) = 0 from rfl, List.drop_zero, List.nil_append] at hz
  rw [hz, bind_some_]
  have hy := specPoses_l0 (turnsOf cs) (by omega) (turnsOf cs).length k 0 [] ⟨a, b, u, v⟩ (by omega) (by omega) rfl
  simpa using hy

open Go.RowKit Go.Proofs.YtgfpbiaocokdeaaW.PrintWords Go.Proofs.YtgfpbiaocokdeaaW.PrintLast Go.Proofs.YtgfpbiaocokdeaaW.PrintMore
attribute [local go_sem] max2_int min2_int max_two min_two max_three min_three max_four min_four   -- for this text's walks alone


mutual
def spec_PrognosisOf.j0 : Nat → Bool → List Int → List (S59) → Int → Int → Int → Int → List (S124) → Option (List Int × Bool)
 | 0, _, _, _, _, _, _, _, _ => none
 | k + 1, x14, x902000, x902001, x903000, x903001, x903002, x903003, x903004 => if x14 = true then (some (([] : List Int), false)) else ((spec_l02Poses.f k x903000 x903001 x903002 x903003 x903004).bind fun t905 => (spec_PrognosisOf.l0 k t905 (([] : List Int)) 0 x902000 x902001))
def spec_PrognosisOf.l0 : Nat → List (S44) → List Int → Int → List Int → List (S59) → Option (List Int × Bool)
 | 0, _, _, _, _, _ => none
 | k + 1, x6, x7, x8, x902000, x902001 => if x8 < (wrap64 ((x6.length : Int) - 1)) then (if 0 ≤ x8 then (if x8 < (x6.length : Int) then ((spec_l06Weight.f k x902000 x902001 x8 ((rd_T44 x6 x8).f1)).bind fun t912 => (if x7.length < 17592186044416 then (spec_PrognosisOf.l0 k x6 (x7 ++ [t912]) (wrap64 (x8 + 1)) x902000 x902001) else (none))) else (none)) else (none)) else (some (x7, true))
end
/- The classes and the weights along an axis, and the mixed rings, as both sides reckon them. -/
def classesOf (hs : List S59) (P : List S44) : List Int := alongGo (fun a h => classOf (topsAt hs a) h) P (P.length - 1) 0
theorem implClasses_l0 (ds : List Int) (hs : List S59) (hg : grOk ds hs = true) (P : List S44) (n : Nat) (hn : n ≤ P.length) (hb : n ≤ 1000) : ∀ (d k i : Nat) (acc : List Int), i + d = n → 6000000 + d < k → acc.length = i → impl_ClassesAlong.l0 k acc (P.take n) n i ds hs = some (acc ++ alongGo (fun a h => classOf (topsAt hs a) h) P d i, true) := by
  intro d
  have hl : (P.take n).length = n := by rw [List.length_take]; omega
  induction d with
  | zero =>
    intro k i acc hi hk ha
    obtain ⟨k, rfl⟩ : ∃ m, k = m + 1 := ⟨k - 1, by omega⟩
    simp only [impl_ClassesAlong.l0, alongGo]
    rw [if_neg (by omega), List.append_nil]
  | succ d ih =>
    intro k i acc hi hk ha
    obtain ⟨k, rfl⟩ : ∃ m, k = m + 1 := ⟨k - 1, by omega⟩
    simp only [impl_ClassesAlong.l0, alongGo]
    rw [if_pos (by omega), if_pos (by omega), if_pos (by omega), rdPose_take P n i (by omega) hn, implClass_is k ds hs i _ hg (by omega), bind_some_, if_pos (by omega), w64s i (by omega), ih k (i + 1) _ (by omega) (by omega) (by simp; omega)]
    simp
theorem specClasses_l0 (ds : List Int) (hs : List S59) (hg : grOk ds hs = true) (P : List S44) (n : Nat) (hn : P.length = n + 1) (hb : n ≤ 1000) : ∀ (d k i : Nat) (acc : List Int), i + d = n → 6000000 + d < k → acc.length = i → spec_ClassesAlong.l0 k P acc i ds hs = some (acc ++ alongGo (fun a h => classOf (topsAt hs a) h) P d i, true) := by
  intro d
  have e : wrap64 ((P.length : Int) - 1) = (n : Int) := by rw [w64 _ (by omega) (by omega)]; omega
  have hl4 : ∀ a, (topsAt hs a).length ≤ 1048576 := fun a => by rw [topsAt_len hg a]; have := (grOk_in hg).1; omega
  induction d with
  | zero =>
    intro k i acc hi hk ha
    obtain ⟨k, rfl⟩ : ∃ m, k = m + 1 := ⟨k - 1, by omega⟩
    simp only [spec_ClassesAlong.l0, alongGo]
    rw [if_neg (by omega), List.append_nil]
  | succ d ih =>
    intro k i acc hi hk ha
    obtain ⟨k, rfl⟩ : ∃ m, k = m + 1 := ⟨k - 1, by omega⟩
    have := hl4 i
    simp only [spec_ClassesAlong.l0, alongGo]
    rw [if_pos (by omega), specAt_is k ds hs i hg (by omega), bind_some_, if_pos (by omega), if_pos (by omega), specClass_is k _ _ (hl4 i) (by omega), bind_some_, if_pos (by omega), w64s i (by omega), ih k (i + 1) _ (by omega) (by omega) (by simp; omega)]
    simp
theorem implClasses_is (k : Nat) (ds : List Int) (hs : List S59) (a b u v : Int) (cs : List S124) (hp : shortH hs) (hb : cs.length ≤ 1048576) (hk : 7000000 < k) : impl_ClassesAlong.f k ds hs a b u v cs = some (alongP (classesOf hs) ds hs ⟨a, b, u, v⟩ cs) := by
  unfold impl_ClassesAlong.f alongP
  rw [implAlong_is k ds hs a b u v cs hp hb (by omega), bind_some_]
  by_cases c : (grOk ds hs && axOk ⟨a, b, u, v⟩ cs) = true
  · have c2 := c
    rw [Bool.and_eq_true] at c2
    have hl := posesOf_len c2.2
    rw [if_pos c, if_pos c]
    try dsimp only
    have hlt : ((posesOf ⟨a, b, u, v⟩ cs).take ((posesOf ⟨a, b, u, v⟩ cs).length - 1)).length = (posesOf ⟨a, b, u, v⟩ cs).length - 1 := by rw [List.length_take]; omega
    have hz := implClasses_l0 ds hs c2.1 (posesOf ⟨a, b, u, v⟩ cs) ((posesOf ⟨a, b, u, v⟩ cs).length - 1) (by omega) (by omega) ((posesOf ⟨a, b, u, v⟩ cs).length - 1) k 0 [] (by omega) (by omega) rfl
    rw [show ((0 : Nat) : Int) = 0 from rfl, List.nil_append] at hz
    rw [if_pos rfl, hlt, hz]
    rfl
  · rw [if_neg c, if_neg c]
    try dsimp only
    rw [if_neg (by simp)]
theorem specClasses_is (k : Nat) (ds : List Int) (hs : List S59) (a b u v : Int) (cs : List S124) (hd : ds.length ≤ 1048576) (hp : shortH hs) (hb : cs.length ≤ 1048576) (hk : 7000000 < k) : spec_ClassesAlong.f k ds hs a b u v cs = some (alongP (classesOf hs) ds hs ⟨a, b, u, v⟩ cs) := by
  obtain ⟨k, rfl⟩ : ∃ m, k = m + 1 := ⟨k - 1, by omega⟩
  unfold spec_ClassesAlong.f alongP
  rw [specGround_is _ ds hs hd hp (by omega), bind_some_, specAxis_is _ a b u v cs hb (by omega), bind_some_]
  simp only [spec_ClassesAlong.j0]
  by_cases c1 : grOk ds hs = true
  · by_cases c2 : axOk ⟨a, b, u, v⟩ cs = true
    · have hl := posesOf_len c2
      have hz := specClasses_l0 ds hs c1 (posesOf ⟨a, b, u, v⟩ cs) ((posesOf ⟨a, b, u, v⟩ cs).length - 1) (by omega) (by omega) ((posesOf ⟨a, b, u, v⟩ cs).length - 1) k 0 [] (by omega) (by omega) rfl
      rw [show ((0 : Nat) : Int) = 0 from rfl, List.nil_append] at hz
      rw [if_pos c1, c1, c2, if_neg (by simp), specPoses_is k a b u v cs c2 (by omega), bind_some_, hz, if_pos (by simp)]
      rfl
    · rw [if_pos c1, if_pos (by simp [c2]), if_neg (by simp [c2])]
  · rw [if_neg c1, if_pos trivial, if_neg (by simp [c1])]
/- A list that was marked still holds its marks. -/
theorem heldInt_loop (n : Nat) (hb : n ≤ 4000000000000000000) (m : Int) (hm : 0 ≤ m ∧ m ≤ 4000000000000000000) : ∀ (d k i : Nat), i + d = n → d < k → laws_heldInt64S.l0 k (iota m n) (m + i) i = some (m + n) := by
  intro d
  induction d with
  | zero =>
    intro k i hi hk
    obtain ⟨k, rfl⟩ : ∃ m, k = m + 1 := ⟨k - 1, by omega⟩
    simp only [laws_heldInt64S.l0]
    rw [if_neg (by rw [iota_length]; omega), show i = n by omega]
  | succ d ih =>
    intro k i hi hk
    obtain ⟨k, rfl⟩ : ∃ m, k = m + 1 := ⟨k - 1, by omega⟩
    simp only [laws_heldInt64S.l0]
    have hr : rd (iota m n) i = m + i := by rw [rd_at _ i (by rw [iota_length]; omega), iota_get]
    rw [if_pos (by rw [iota_length]; omega), if_pos (by omega), if_pos hr, w64s i (by omega), w64 (m + i + 1) (by omega) (by omega), show m + (i : Int) + 1 = m + ((i + 1 : Nat) : Int) by omega]
    exact ih k (i + 1) (by omega) (by omega)
theorem heldInt_is (k : Nat) (n : Nat) (m : Int) (hm : 0 ≤ m ∧ m ≤ 4000000000000000000) (hb : n ≤ 4000000000000000000) (hk : n < k) : laws_heldInt64S.f k (iota m n) m = some (m + n) := by
  unfold laws_heldInt64S.f
  have := heldInt_loop n hb m hm n k 0 (by omega) hk
  simpa using this

/- A list of structs is equal to itself. -/
theorem eqCurveS_loop (a : List S124) (hb : a.length ≤ 9223372036854775807) : ∀ (d k i : Nat), i + d = a.length → d < k → laws_eqCurveS.l0 k a a i = some true := by
  intro d
  induction d with
  | zero =>
    intro k i hi hk
    obtain ⟨k, rfl⟩ : ∃ m, k = m + 1 := ⟨k - 1, by omega⟩
    simp only [laws_eqCurveS.l0]
    rw [if_neg (by omega)]
  | succ d ih =>
    intro k i hi hk
    obtain ⟨k, rfl⟩ : ∃ m, k = m + 1 := ⟨k - 1, by omega⟩
    simp only [laws_eqCurveS.l0, laws_eqCurve.f, if_true, bind_some_]
    rw [if_pos (by omega), if_pos (by omega), if_pos (by omega), w64s i (by omega)]
    exact ih k (i + 1) (by omega) (by omega)
theorem eqCurveS_refl (k : Nat) (a : List S124) (hb : a.length ≤ 9223372036854775807) (hk : a.length < k) : laws_eqCurveS.f k a a = some true := by
  unfold laws_eqCurveS.f
  rw [if_pos rfl]
  exact eqCurveS_loop a hb a.length k 0 (by omega) hk

/- A list of structs is marked with rising numbers, and still holds them. -/
def iotaCurve (m : Int) (c : Nat) : List S124 := (List.range c).map fun (i : Nat) => ⟨m + 3 * (i : Int), m + 3 * (i : Int) + 1, m + 3 * (i : Int) + 2⟩
theorem iotaCurve_len (m : Int) (c : Nat) : (iotaCurve m c).length = c := by simp [iotaCurve]
theorem iotaCurve_get (m : Int) (c i : Nat) (h : i < (iotaCurve m c).length) : (iotaCurve m c)[i] = ⟨m + 3 * (i : Int), m + 3 * (i : Int) + 1, m + 3 * (i : Int) + 2⟩ := by simp [iotaCurve]
theorem rdCurve_set (l : List S124) (i : Nat) (x : S124) (h : i < l.length) : rd_T124 (l.set i x) (i : Int) = x := by
  rw [rdCurve_at _ i (by rw [List.length_set]; exact h), List.getElem_set_self]
theorem markCurveS_loop (c : Nat) (hb : c ≤ 4000000000000000) (m : Int) (hm : 0 ≤ m ∧ m ≤ 4000000000000000) : ∀ (d k i : Nat) (l : List S124), i + d = c → d < k → l.length = c → l.take i = (iotaCurve m c).take i → laws_markCurveS.l0 k l (m + 3 * (i : Int)) i = some (m + 3 * c, iotaCurve m c) := by
  intro d
  induction d with
  | zero =>
    intro k i l hi hk hl ht
    obtain ⟨k, rfl⟩ : ∃ m, k = m + 1 := ⟨k - 1, by omega⟩
    simp only [laws_markCurveS.l0]
    rw [if_neg (by omega)]
    rw [List.take_of_length_le (by omega), List.take_of_length_le (by rw [iotaCurve_len]; omega)] at ht
    rw [ht, show i = c by omega]
  | succ d ih =>
    intro k i l hi hk hl ht
    obtain ⟨k, rfl⟩ : ∃ m, k = m + 1 := ⟨k - 1, by omega⟩
    have e1 : wrap64 (m + 3 * (i : Int) + 1) = m + 3 * (i : Int) + 1 := by
      rw [w64 _ (by omega) (by omega)] <;> omega
    have e2 : wrap64 (m + 3 * (i : Int) + 1 + 1) = m + 3 * (i : Int) + 2 := by
      rw [w64 _ (by omega) (by omega)] <;> omega
    have e3 : wrap64 (m + 3 * (i : Int) + 2 + 1) = m + 3 * ((i + 1 : Nat) : Int) := by
      rw [w64 _ (by omega) (by omega)] <;> omega
    simp only [laws_markCurveS.l0, bind_some_, Int.toNat_natCast, List.set_set, rdCurve_set l i _ (show i < l.length by omega)]
    rw [if_pos (by omega), if_pos (by omega), w64s i (by omega)]
    simp only [Int.add_assoc, Int.reduceAdd] at *
    simp only [e1, e2, e3, Int.add_assoc, Int.reduceAdd]
    have ht2 := fill_step (iotaCurve m c) l i ⟨m + 3 * (i : Int), m + 3 * (i : Int) + 1, m + 3 * (i : Int) + 2⟩ (by rw [iotaCurve_len]; omega) (by rw [iotaCurve_len]; exact hl) ht (iotaCurve_get m c i (by rw [iotaCurve_len]; omega))
    have hz := ih k (i + 1) _ (by omega) (by omega) (by rw [List.length_set]; exact hl) ht2
    simp only [Int.add_assoc, Int.reduceAdd, List.set_set] at hz ⊢
    exact hz
theorem markCurveS_is (k : Nat) (l : List S124) (m : Int) (hm : 0 ≤ m ∧ m ≤ 4000000000000000) (hb : l.length ≤ 4000000000000000) (hk : l.length < k) : laws_markCurveS.f k l m = some (m + 3 * l.length, iotaCurve m l.length) := by
  unfold laws_markCurveS.f
  have := markCurveS_loop l.length hb m hm l.length k 0 l (by omega) hk rfl (by simp)
  simpa using this

/- A list is marked with rising numbers, and still holds them. -/
theorem markInt_loop (n : Nat) (hb : n ≤ 4000000000000000000) (m : Int) (hm : 0 ≤ m ∧ m ≤ 4000000000000000000) : ∀ (d k i : Nat) (l : List Int), i + d = n → d < k → l.length = n → l.take i = (iota m n).take i → laws_markInt64S.l0 k l (m + i) i = some (m + n, iota m n) := by
  intro d
  induction d with
  | zero =>
    intro k i l hi hk hl ht
    obtain ⟨k, rfl⟩ : ∃ m, k = m + 1 := ⟨k - 1, by omega⟩
    simp only [laws_markInt64S.l0]
    rw [if_neg (by omega)]
    rw [List.take_of_length_le (by omega), List.take_of_length_le (by rw [iota_length]; omega)] at ht
    rw [ht, show i = n by omega]
  | succ d ih =>
    intro k i l hi hk hl ht
    obtain ⟨k, rfl⟩ : ∃ m, k = m + 1 := ⟨k - 1, by omega⟩
    simp only [laws_markInt64S.l0]
    rw [if_pos (by omega), if_pos (by omega), w64s i (by omega), Int.toNat_natCast, w64 (m + i + 1) (by omega) (by omega), show m + (i : Int) + 1 = m + ((i + 1 : Nat) : Int) by omega]
    exact ih k (i + 1) _ (by omega) (by omega) (by rw [List.length_set]; exact hl) (fill_step (iota m n) l i _ (by rw [iota_length]; omega) (by rw [iota_length]; exact hl) ht (iota_get m n i (by rw [iota_length]; omega)))
theorem markInt_is (k : Nat) (l : List Int) (m : Int) (hm : 0 ≤ m ∧ m ≤ 4000000000000000000) (hb : l.length ≤ 4000000000000000000) (hk : l.length < k) : laws_markInt64S.f k l m = some (m + l.length, iota m l.length) := by
  unfold laws_markInt64S.f
  have := markInt_loop l.length hb m hm l.length k 0 l (by omega) hk rfl (by simp)
  simpa using this

/- Holes are marked with rising numbers. -/
def iotaHole : Int → List S59 → List S59
  | _, [] => []
  | m, r :: rs => ⟨m, iota (m + 1) r.f1.length⟩ :: iotaHole (m + 1 + r.f1.length) rs
def cntHole : List S59 → Nat
  | [] => 0
  | r :: rs => 1 + r.f1.length + cntHole rs
theorem cntHole_le : ∀ rs : List S59, (∀ s ∈ rs, s.f1.length ≤ 1048576) → cntHole rs ≤ 1048577 * rs.length
  | [], _ => by simp [cntHole]
  | r :: rs, h => by
    have h1 := h r (by simp)
    have h2 := cntHole_le rs (fun s hs => h s (by simp [hs]))
    simp only [cntHole, List.length_cons]
    omega
theorem markHole_loop : ∀ (todo : List S59) (k : Nat) (pre : List S59) (m : Int), (pre.length + todo.length : Int) ≤ 4000000000000000000 → (∀ s ∈ todo, s.f1.length ≤ 1048576) → 1048577 + todo.length < k → 0 ≤ m → m + cntHole todo ≤ 3000000000000000000 → laws_markHoleS.l0 k (pre ++ todo) m pre.length = some (m + cntHole todo, pre ++ iotaHole m todo) := by
  intro todo
  induction todo with
  | nil =>
    intro k pre m h1 hr h2 h3 h4
    obtain ⟨k, rfl⟩ : ∃ m, k = m + 1 := ⟨k - 1, by omega⟩
    simp only [laws_markHoleS.l0]
    rw [if_neg (by simp)]
    simp [cntHole, iotaHole]
  | cons r rs ih =>
    intro k pre m h1 hr h2 h3 h4
    obtain ⟨k, rfl⟩ : ∃ m, k = m + 1 := ⟨k - 1, by omega⟩
    have hl := hr r (by simp)
    simp only [cntHole, List.length_cons] at h1 h2 h4
    have e1 : rd_T59 (pre ++ r :: rs) (pre.length : Int) = r := by
      unfold rd_T59
      rw [Int.toNat_natCast, List.getD_eq_getElem?_getD, List.getElem?_append_right (Nat.le_refl _), Nat.sub_self]
      rfl
    have e2 : ∀ v : S59, (pre ++ r :: rs).set ((pre.length : Int)).toNat v = (pre ++ [v]) ++ rs := by
      intro v
      rw [Int.toNat_natCast, List.set_append_right _ _ (Nat.le_refl _), Nat.sub_self]
      simp
    have e3 : pre.length + 1 = (pre ++ [(⟨m, iota (m + 1) r.f1.length⟩ : S59)]).length := by simp
    simp only [laws_markHoleS.l0]
    rw [if_pos (by simp; omega), if_pos (by omega), e1, w64 (m + 1) (by omega) (by omega), markInt_is k r.f1 (m + 1) (by omega) (by omega) (by omega), bind_some_, e2, w64s pre.length (by omega), e3, ih k _ (m + 1 + r.f1.length) (by simp; omega) (fun s hs => hr s (by simp [hs])) (by omega) (by omega) (by omega)]
    simp only [cntHole, iotaHole, List.append_assoc, List.singleton_append, Int.natCast_add, Int.add_assoc]
    rfl
theorem markHole_is (k : Nat) (rs : List S59) (m : Int) (hp : shortH rs) (hm : 0 ≤ m ∧ m ≤ 1000000000) (hk : 3000000 < k) : laws_markHoleS.f k rs m = some (m + (cntHole rs : Int), iotaHole m rs) := by
  have h1 := hp.1
  have h2 := cntHole_le rs hp.2
  have h3 : 1048577 * rs.length ≤ 1048577 * 1048576 := Nat.mul_le_mul (Nat.le_refl _) h1
  have e1 := markHole_loop rs k [] m (by simp; omega) hp.2 (by omega) (by omega) (by omega)
  exact e1

/- A list of the law's own structs is copied into the program's. -/
def toCurve (x : S133) : S124 := ⟨x.f0, x.f1, x.f2⟩
theorem rdLCurve_at (l : List S133) (i : Nat) (h : i < l.length) : rd_T133 l (i : Int) = l[i] := by
  unfold rd_T133
  rw [Int.toNat_natCast, List.getD_eq_getElem?_getD, List.getElem?_eq_getElem h]
  rfl
theorem toCurveS_loop (l : List S133) (hb : l.length ≤ 9223372036854775807) : ∀ (d k i : Nat) (acc : List S124), i + d = l.length → d < k → acc.length = l.length → acc.take i = (l.map toCurve).take i → laws_toCurveS.l0 k l acc i = some (l.map toCurve) := by
  intro d
  induction d with
  | zero =>
    intro k i acc hi hk ha ht
    obtain ⟨k, rfl⟩ : ∃ m, k = m + 1 := ⟨k - 1, by omega⟩
    simp only [laws_toCurveS.l0]
    rw [if_neg (by omega)]
    rw [List.take_of_length_le (by omega), List.take_of_length_le (by rw [List.length_map]; omega)] at ht
    rw [ht]
  | succ d ih =>
    intro k i acc hi hk ha ht
    obtain ⟨k, rfl⟩ : ∃ m, k = m + 1 := ⟨k - 1, by omega⟩
    simp only [laws_toCurveS.l0, laws_toCurve.f, bind_some_]
    rw [if_pos (by omega), if_pos (by omega), if_pos (by omega), w64s i (by omega), Int.toNat_natCast]
    refine ih k (i + 1) _ (by omega) (by omega) (by rw [List.length_set]; exact ha) (fill_step (l.map toCurve) acc i _ (by rw [List.length_map]; omega) (by rw [List.length_map]; exact ha) ht ?_)
    rw [List.getElem_map, rdLCurve_at l i (by omega)]
    rfl
theorem toCurveS_is (k : Nat) (l : List S133) (hb : l.length ≤ 1048576) (hk : l.length < k) : laws_toCurveS.f k l = some (l.map toCurve) := by
  unfold laws_toCurveS.f
  rw [if_pos (by omega), if_pos (by omega)]
  exact toCurveS_loop l (by omega) l.length k 0 _ (by omega) hk (by simp) (by simp)

/- An axis is copied, measured, marked, and equal to itself; a ground's marks are bounded. -/
theorem szAxis_is (a b u v : Int) (cs : List S133) (q : Int) (hb : cs.length ≤ 9223372036854775807) (h0 : 0 ≤ q) (h1 : q ≤ 1048576) : ∃ r, laws_szAxis.f a b u v cs q = some r ∧ (r < 0 ∨ cs.length ≤ 1048576) := by
  unfold laws_szAxis.f laws_szCurveS.f
  rw [w64 (q - (cs.length : Int)) (by omega) (by omega)]
  by_cases c : q - (cs.length : Int) < 0
  · rw [if_pos c, bind_some_, if_pos (by omega)]
    exact ⟨_, rfl, Or.inl (by omega)⟩
  · rw [if_neg c, bind_some_, if_neg c]
    exact ⟨_, rfl, Or.inr (by omega)⟩
theorem toAxis_is (k : Nat) (a b u v : Int) (cs : List S133) (hb : cs.length ≤ 1048576) (hk : cs.length < k) : laws_toAxis.f k a b u v cs = some (a, b, u, v, cs.map toCurve) := by
  unfold laws_toAxis.f laws_toPose.f
  rw [bind_some_]
  try dsimp only
  rw [toCurveS_is k cs hb hk, bind_some_]
theorem eqAxis_refl (k : Nat) (a b u v : Int) (cs : List S124) (hb : cs.length ≤ 1048576) (hk : cs.length < k) : laws_eqAxis.f k a b u v cs a b u v cs = some true := by
  unfold laws_eqAxis.f laws_eqPose.f
  rw [if_pos rfl, if_pos rfl, if_pos rfl, if_pos rfl, bind_some_, if_pos rfl, eqCurveS_refl k cs (by omega) hk, bind_some_, if_pos rfl]
theorem markAxis_ok (k : Nat) (a b u v : Int) (cs : List S124) (m : Int) (hm : 0 ≤ m ∧ m ≤ 4000000000000000) (hb : cs.length ≤ 1048576) (hk : cs.length < k) : ∃ r, laws_markAxis.f k a b u v cs m = some r ∧ 0 ≤ r.1 := by
  unfold laws_markAxis.f
  rw [markCurveS_is k cs m hm (by omega) hk, bind_some_]
  exact ⟨_, rfl, by dsimp only; omega⟩
theorem markGround_up (k : Nat) (ds : List Int) (hs : List S59) (m : Int) (hm : 0 ≤ m ∧ m ≤ 100000000) (hd : ds.length ≤ 1048576) (hp : shortH hs) (hk : 3000000 < k) : ∃ b, laws_markGround.f k ds hs m = some b ∧ 0 ≤ b.1 ∧ b.1 ≤ 4000000000000000 := by
  have h1 := hp.1
  have h2 := cntHole_le hs hp.2
  unfold laws_markGround.f
  rw [markInt_is k ds m (by omega) (by omega) (by omega), bind_some_]
  try dsimp only
  rw [markHole_is k hs (m + ds.length) hp ⟨by omega, by omega⟩ (by omega), bind_some_]
  exact ⟨_, rfl, by dsimp only; omega, by dsimp only; omega⟩

/- A ground is copied, measured, marked, and equal to itself. -/
theorem toGround_is (k : Nat) (ds : List Int) (hs : List S55) (hd : ds.length ≤ 1048576) (hb : hs.length ≤ 1048576) (hw : ∀ s ∈ hs, s.f1.length ≤ 1048576) (hk : 3000000 < k) : laws_toGround.f k ds hs = some (ds, hs.map toHole) := by
  unfold laws_toGround.f
  rw [toInt_is k ds (by omega) (by omega), bind_some_, toHoleS_is k hs hb hw (by omega), bind_some_]
theorem eqGround_refl (k : Nat) (ds : List Int) (hs : List S59) (hd : ds.length ≤ 1048576) (hp : shortH hs) (hk : 3000000 < k) : laws_eqGround.f k ds hs ds hs = some true := by
  have := hp.1
  unfold laws_eqGround.f
  rw [eqInt_is k ds ds (by omega) (by omega), bind_some_, if_pos (decide_eq_true rfl), eqHoleS_refl k hs hp (by omega), bind_some_, if_pos rfl]
theorem szGround_is (k : Nat) (ds : List Int) (hs : List S55) (hd : ds.length ≤ 9223372036854775807) (hb : hs.length ≤ 9223372036854775807) (hw : ∀ s ∈ hs, s.f1.length ≤ 9223372036854775807) (hk : 3000000 < k) : ∃ r, laws_szGround.f k ds hs 1048576 = some r ∧ r ≤ 1048576 ∧ (r < 0 ∨ (ds.length ≤ 1048576 ∧ hs.length ≤ 1048576 ∧ ∀ s ∈ hs, s.f1.length ≤ 1048576)) := by
  unfold laws_szGround.f laws_szInt64S.f
  rw [w64 (1048576 - (ds.length : Int)) (by omega) (by omega)]
  by_cases h1 : 1048576 - (ds.length : Int) < 0
  · rw [if_pos h1, bind_some_, if_pos (by omega)]
    exact ⟨_, rfl, by omega, Or.inl (by omega)⟩
  · obtain ⟨r, hr, hs2⟩ := szHoleS_is k hs (1048576 - (ds.length : Int)) hb hw (by omega) (by omega) (by omega)
    rw [if_neg h1, bind_some_, if_neg h1, hr, bind_some_]
    by_cases h2 : r < 0
    · rw [if_pos h2]
      exact ⟨_, rfl, by omega, Or.inl (by omega)⟩
    · rw [if_neg h2]
      have h3 := hs2.resolve_left h2
      by_cases h4 : r ≤ 1048576
      · exact ⟨_, rfl, h4, Or.inr ⟨by omega, h3⟩⟩
      · exact absurd (szHoleS_le k hs _ hb hw (by omega) (by omega) (by omega) r hr) h4
end Go.Proofs.Ytgfpbiaocokdeaa.P
