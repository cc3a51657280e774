/- What the claim of FnExactCheapestPlan bears, part 5: functions of the program as plain Lean functions, with proofs that the code comes to their answers, and lemmas on them. -/
import Derived.Test.YtfcadpkhmkjibaaCFnExactCheapestPlan4
import Derived.Test.YtfcadpkhmkjibaaCFnExactCheapestPlan0
import Derived.Test.YtfcadpkhmkjibaaCFnExactCheapestPlan1
import Derived.Test.YtfcadpkhmkjibaaCFnExactCheapestPlan3
import Derived.Test.YtfcadpkhmkjibaaCFnExactCheapestPlan2
set_option linter.unusedVariables false
set_option linter.unusedSimpArgs false
/- The cheapest plan, as both sides answer. -/
namespace Go.Proofs.Ytfcadpkhmkjibaa.P
open Go.RowKit Go.Proofs.Ytfcadpkhmkjibaa.P Go.Proofs.YtfcadpkhmkjibaaW.PrintWords Go.Proofs.YtfcadpkhmkjibaaW.PrintLast Go.Proofs.YtfcadpkhmkjibaaW.PrintMore
set_option linter.unusedVariables false
set_option linter.unusedSimpArgs false
def costOf (x y : Int) (p : List S49) : Int := costGo x y p 0
theorem costGo_in (x y : Int) (hx : 0 ≤ x ∧ x ≤ 10000) (hy : 0 ≤ y ∧ y ≤ 10000) : ∀ (p : List S49) (s : Int), (∀ t ∈ p, t.f1.length ≤ 5) → p.length ≤ 1000000 → 0 ≤ s → s + 60000 * p.length ≤ 1000000000000 → costGo x y p s = s + (p.map fun t => x + y * (t.f1.length : Int)).sum ∧ 0 ≤ (p.map fun t => x + y * (t.f1.length : Int)).sum ∧ (p.map fun t => x + y * (t.f1.length : Int)).sum ≤ 60000 * p.length
  | [], s, _, _, h0, _ => by simp [costGo]
  | t :: p, s, h5, hl, h0, h1 => by
    have ht := h5 t (by simp)
    have b1 : 0 ≤ y * (t.f1.length : Int) := Int.mul_nonneg hy.1 (by omega)
    have b2 : y * (t.f1.length : Int) ≤ 10000 * (t.f1.length : Int) := Int.mul_le_mul_of_nonneg_right hy.2 (by omega)
    simp only [List.length_cons] at hl h1
    have e1 := w64 (y * (t.f1.length : Int)) (by omega) (by omega)
    have e2 := w64 (x + y * (t.f1.length : Int)) (by omega) (by omega)
    have e3 := w64 (s + (x + y * (t.f1.length : Int))) (by omega) (by omega)
    obtain ⟨i1, i2, i3⟩ := costGo_in x y hx hy p (s + (x + y * (t.f1.length : Int))) (fun q hq => h5 q (by simp [hq])) (by omega) (by omega) (by omega)
    simp only [costGo, List.map_cons, List.sum_cons, List.length_cons]
    rw [e1, e2, e3, i1]
    clear e1 e2 e3 i1
    exact ⟨by omega, by omega, by omega⟩
def planAt (cs : List S34) (fc st : List Int) (m : Nat) : List S49 := forP cs fc (someOf st m)
def okAt (cs : List S34) (fc st : List Int) (m : Nat) : Bool := (failP cs fc (planAt cs fc st m)).isNone
theorem pick_small (cs : List S34) (fc s : List Int) (hc : cs.length ≤ 5) : ∀ (d i : Nat) (p : List S49), (∀ t ∈ p, t.f1.length ≤ 5) → ∀ t ∈ forGo cs fc s d i p, t.f1.length ≤ 5
  | 0, i, p, h => h
  | d + 1, i, p, h => by
    simp only [forGo]
    refine pick_small cs fc s hc d (i + 1) _ ?_
    intro t ht
    unfold forStep at ht
    split at ht
    · rcases List.mem_append.mp ht with q | q
      · exact h t q
      · rw [List.mem_singleton.mp q]
        have := (pick_in cs fc p (rd s (i : Int)).toNat (nextAt fc s i)).1
        dsimp only
        omega
    · exact h t ht
theorem planAt_in {cs : List S34} {fc st : List Int} {x y : Int} (hh : hdOk cs fc st x y = true) (m : Nat) : (planAt cs fc st m).length ≤ 8 ∧ planIn cs.length (planAt cs fc st m) ∧ ∀ t ∈ planAt cs fc st m, t.f1.length ≤ 5 := by
  have hin := hdOk_in hh
  have h1 := (someOf_in st m).1
  have h2 := forP_in fc (someOf st m) hin.1 (by omega)
  exact ⟨by have := h2.1; unfold planAt; omega, h2.2, pick_small cs fc _ hin.1 _ _ _ (by simp)⟩
theorem costAt_nn {cs : List S34} {fc st : List Int} {x y : Int} (hh : hdOk cs fc st x y = true) (m : Nat) : 0 ≤ costOf x y (planAt cs fc st m) := by
  have hin := hdOk_in hh
  obtain ⟨h1, h2, h3⟩ := planAt_in hh m
  obtain ⟨e1, e2, _⟩ := costGo_in x y hin.2.2.2.1 hin.2.2.2.2 (planAt cs fc st m) 0 h3 (by omega) (by omega) (by omega)
  unfold costOf
  omega
def ringsP (p : List S49) : List Int := p.map fun t => t.f0
def stepC (cs : List S34) (fc st : List Int) (x y : Int) (m : Nat) (b : Option (List S49 × Int)) : Option (List S49 × Int) :=
  if okAt cs fc st m = true then (match b with
    | none => some (planAt cs fc st m, costOf x y (planAt cs fc st m))
    | some (p, c) => if costOf x y (planAt cs fc st m) < c then some (planAt cs fc st m, costOf x y (planAt cs fc st m)) else if costOf x y (planAt cs fc st m) = c then (if lessL (ringsP (planAt cs fc st m)) (ringsP p) = true then some (planAt cs fc st m, costOf x y (planAt cs fc st m)) else some (p, c)) else some (p, c)) else b
def bestGo (cs : List S34) (fc st : List Int) (x y : Int) : Nat → Nat → Option (List S49 × Int) → Option (List S49 × Int)
  | 0, _, b => b
  | d + 1, m, b => bestGo cs fc st x y d (m + 1) (stepC cs fc st x y m b)
def bestOf (cs : List S34) (fc st : List Int) (x y : Int) : Option (List S49 × Int) := bestGo cs fc st x y (2 ^ st.length) 0 none
def outC (b : Option (List S49 × Int)) : List S49 × Int × Bool := match b with | none => ([], 0, false) | some (p, c) => (p, c, true)
def cheapP (cs : List S34) (fc st : List Int) (x y : Int) : List S49 × Int × Bool := if hdOk cs fc st x y = true then outC (bestOf cs fc st x y) else ([], 0, false)
theorem pow_le (n : Nat) (h : n ≤ 8) : 2 ^ n ≤ 256 := by
  have : 2 ^ n ≤ 2 ^ 8 := Nat.pow_le_pow_right (by omega) h
  omega
theorem ringsP_len (p : List S49) : (ringsP p).length = p.length := List.length_map ..
theorem implRings_l0 (p : List S49) (hp : p.length ≤ 1048576) : ∀ (d k i : Nat) (acc : List Int), i + d = p.length → d < k → acc.length = i → impl_ringsOf.l0 k acc p p.length i = some (acc ++ ringsP (p.drop i)) := by
  intro d
  induction d with
  | zero =>
    intro k i acc hi hk ha
    obtain ⟨k, rfl⟩ : ∃ m, k = m + 1 := ⟨k - 1, by omega⟩
    simp only [impl_ringsOf.l0]
    rw [if_neg (by omega), List.drop_of_length_le (by omega)]
    simp [ringsP]
  | succ d ih =>
    intro k i acc hi hk ha
    obtain ⟨k, rfl⟩ : ∃ m, k = m + 1 := ⟨k - 1, by omega⟩
    have hlt : i < p.length := by omega
    have hd : p.drop i = rd_T49 p (i : Int) :: p.drop (i + 1) := by rw [rdStop_at p i hlt, List.drop_eq_getElem_cons hlt]
    simp only [impl_ringsOf.l0]
    rw [if_pos (by omega), if_pos (by omega), if_pos (by omega), if_pos (by omega), w64s i (by omega), ih k (i + 1) _ (by omega) (by omega) (by simp; omega), hd]
    simp [ringsP]
theorem specRings_l0 (p : List S49) (hp : p.length ≤ 1048576) : ∀ (d k i : Nat) (acc : List Int), i + d = p.length → d < k → acc.length = i → spec_l08Rings.l0 k p acc i = some (acc ++ ringsP (p.drop i)) := by
  intro d
  induction d with
  | zero =>
    intro k i acc hi hk ha
    obtain ⟨k, rfl⟩ : ∃ m, k = m + 1 := ⟨k - 1, by omega⟩
    simp only [spec_l08Rings.l0]
    rw [if_neg (by omega), List.drop_of_length_le (by omega)]
    simp [ringsP]
  | succ d ih =>
    intro k i acc hi hk ha
    obtain ⟨k, rfl⟩ : ∃ m, k = m + 1 := ⟨k - 1, by omega⟩
    have hlt : i < p.length := by omega
    have hd : p.drop i = rd_T49 p (i : Int) :: p.drop (i + 1) := by rw [rdStop_at p i hlt, List.drop_eq_getElem_cons hlt]
    simp only [spec_l08Rings.l0]
    rw [if_pos (by omega), if_pos (by omega), if_pos (by omega), w64s i (by omega), ih k (i + 1) _ (by omega) (by omega) (by simp; omega), hd]
    simp [ringsP]
theorem implRings_is (k : Nat) (p : List S49) (hp : p.length ≤ 1048576) (hk : p.length < k) : impl_ringsOf.f k p = some (ringsP p) := by
  unfold impl_ringsOf.f
  have := implRings_l0 p hp p.length k 0 [] (by omega) hk rfl
  simpa using this
theorem specRings_is (k : Nat) (p : List S49) (hp : p.length ≤ 1048576) (hk : p.length < k) : spec_l08Rings.f k p = some (ringsP p) := by
  unfold spec_l08Rings.f
  have := specRings_l0 p hp p.length k 0 [] (by omega) hk rfl
  simpa using this
theorem implCheap_l1 (cs : List S34) (fc st : List Int) (x y : Int) (hs : st.length ≤ 8) (bp : List S49) (bc : Int) (bo : Bool) (m : Nat) (hm : m < 256) (n : Int) (out : Option (List S49 × Int × Bool)) (B : Nat)
    (hcont : ∀ k, B ≤ k → impl_CheapestPlan.l1 (k + 1) bp bc bo m (someOf st m) n m st st.length st.length cs fc st x y = out) : ∀ (d k i : Nat) (acc : List Int), i + d = st.length → B + d < k → acc.length ≤ i → acc ++ someGo st m d i = someOf st m → impl_CheapestPlan.l1 k bp bc bo m acc n m st st.length i cs fc st x y = out := by
  intro d
  induction d with
  | zero =>
    intro k i acc hi hk hl ha
    obtain ⟨k, rfl⟩ : ∃ m, k = m + 1 := ⟨k - 1, by omega⟩
    simp only [someGo, List.append_nil] at ha
    rw [ha, show i = st.length by omega]
    exact hcont k (by omega)
  | succ d ih =>
    intro k i acc hi hk hl ha
    obtain ⟨k, rfl⟩ : ∃ m, k = m + 1 := ⟨k - 1, by omega⟩
    simp only [someGo] at ha
    simp only [impl_CheapestPlan.l1]
    rw [if_pos (by omega), if_pos (by omega), if_pos (by omega), bit_if m i hm (by omega), w64s i (by omega)]
    by_cases h : bitB m i = true
    · rw [if_pos h] at ha
      rw [if_pos h, if_pos (by omega)]
      refine ih k (i + 1) _ (by omega) (by omega) (by simp only [List.length_append, List.length_cons, List.length_nil]; omega) ?_
      rw [List.append_assoc, List.singleton_append]
      exact ha
    · rw [if_neg h] at ha
      rw [if_neg h]
      exact ih k (i + 1) acc (by omega) (by omega) (by omega) ha
def smallB (b : Option (List S49 × Int)) : Prop := ∀ p c, b = some (p, c) → p.length ≤ 8 ∧ 0 ≤ c
theorem stepC_small {cs : List S34} {fc st : List Int} {x y : Int} (hh : hdOk cs fc st x y = true) (m : Nat) {b : Option (List S49 × Int)} (hb : smallB b) : smallB (stepC cs fc st x y m b) := by
  have h1 := (planAt_in hh m).1
  have h2 := costAt_nn hh m
  intro p c h
  unfold stepC at h
  split at h
  · cases b with
    | none =>
      simp only [Option.some.injEq, Prod.mk.injEq] at h
      rw [← h.1, ← h.2]
      exact ⟨h1, h2⟩
    | some q =>
      obtain ⟨p0, c0⟩ := q
      have h3 := hb p0 c0 rfl
      dsimp only at h
      split at h
      · simp only [Option.some.injEq, Prod.mk.injEq] at h
        rw [← h.1, ← h.2]
        exact ⟨h1, h2⟩
      · split at h
        · split at h
          · simp only [Option.some.injEq, Prod.mk.injEq] at h
            rw [← h.1, ← h.2]
            exact ⟨h1, h2⟩
          · simp only [Option.some.injEq, Prod.mk.injEq] at h
            rw [← h.1, ← h.2]
            exact h3
        · simp only [Option.some.injEq, Prod.mk.injEq] at h
          rw [← h.1, ← h.2]
          exact h3
  · exact hb p c h
theorem implCheap_l0 (wearK : Nat) (hW : wearOk wearK) (cs : List S34) (fc st : List Int) (x y : Int) (hh : hdOk cs fc st x y = true) : ∀ (d k m : Nat) (b : Option (List S49 × Int)), m + d = 2 ^ st.length → smallB b → wearK + 400000000 + 20 * d < k → impl_CheapestPlan.l0 k (outC b).1 (outC b).2.1 (outC b).2.2 ((2 ^ st.length : Nat) : Int) m cs fc st x y = some (outC (bestGo cs fc st x y d m b)) := by
  intro d
  have hin := hdOk_in hh
  have hpw := pow_le st.length hin.2.2.1
  induction d with
  | zero =>
    intro k m b hm hb hk
    obtain ⟨k, rfl⟩ : ∃ m, k = m + 1 := ⟨k - 1, by omega⟩
    simp only [impl_CheapestPlan.l0, bestGo]
    rw [if_neg (by omega)]
  | succ d ih =>
    intro k m b hm hb hk
    obtain ⟨k, rfl⟩ : ∃ m, k = m + 1 := ⟨k - 1, by omega⟩
    have hpl := planAt_in hh m
    have hsm := (someOf_in st m).1
    have hz := fun k2 hk2 => ih k2 (m + 1) (stepC cs fc st x y m b) (by omega) (stepC_small hh m hb) hk2
    obtain ⟨bp, bc, bo, hO⟩ : ∃ bp bc bo, outC b = (bp, bc, bo) := ⟨_, _, _, rfl⟩
    rw [hO]
    dsimp only
    simp only [impl_CheapestPlan.l0, bestGo]
    rw [if_pos (by omega)]
    refine implCheap_l1 cs fc st x y hin.2.2.1 _ _ _ m (by omega) _ _ (wearK + 400000000 + 20 * d + 5) ?_ st.length k 0 [] (by omega) (by omega) (by simp) rfl
    intro k2 hk2
    have hc := implCost_l0 cs fc st x y (planAt cs fc st m) (by omega) (planAt cs fc st m).length k2 0 0 (by omega) (by omega)
    rw [show ((0 : Nat) : Int) = 0 from rfl, List.drop_zero] at hc
    have hz2 := hz k2 (by omega)
    simp only [impl_CheapestPlan.l1]
    rw [if_neg (by omega), implFor_is wearK hW k2 cs fc st x y hh (someOf st m) (by omega) (someOf_rd hh m) (by omega), bind_some_, w64s m (by omega)]
    dsimp only
    have eok : (failP cs fc (forP cs fc (someOf st m))).isNone = okAt cs fc st m := rfl
    have epl : forP cs fc (someOf st m) = planAt cs fc st m := rfl
    rw [eok, epl]
    unfold impl_Head_cost.f
    rw [hc, bind_some_]
    generalize some (outC (bestGo cs fc st x y d (m + 1) (stepC cs fc st x y m b))) = R at hz2 ⊢
    unfold stepC at hz2
    by_cases h1 : okAt cs fc st m = true
    · rw [if_pos h1] at hz2 ⊢
      cases b with
      | none =>
        simp only [outC, Prod.mk.injEq] at hO
        obtain ⟨rfl, rfl, rfl⟩ := hO
        rw [if_neg (show ¬ (false = true) by decide)]
        unfold costOf at hz2
        exact hz2
      | some q =>
        obtain ⟨p0, c0⟩ := q
        have hs0 := hb p0 c0 rfl
        obtain ⟨r, hr, hr2⟩ := implLess_l0 (ringsP (planAt cs fc st m)) (ringsP p0) (by rw [ringsP_len]; omega) (ringsP (planAt cs fc st m)).length k2 0 (by omega) (by rw [ringsP_len]; omega)
        rw [show ((0 : Nat) : Int) = 0 from rfl] at hr
        have e3 : (decide (r < 0)) = lessL (ringsP (planAt cs fc st m)) (ringsP p0) := hr2
        dsimp only at hz2
        simp only [outC, Prod.mk.injEq] at hO
        obtain ⟨rfl, rfl, rfl⟩ := hO
        rw [if_pos rfl, implRings_is k2 _ (by omega) (by omega), bind_some_, implRings_is k2 p0 (by omega) (by omega), bind_some_]
        unfold slices_Compare_int64_int64.f
        rw [hr, bind_some_]
        unfold costOf at hz2
        by_cases c1 : costGo x y (planAt cs fc st m) 0 < c0
        · rw [if_pos c1] at hz2 ⊢
          exact hz2
        · rw [if_neg c1] at hz2 ⊢
          by_cases c2 : costGo x y (planAt cs fc st m) 0 = c0
          · rw [if_pos c2] at hz2 ⊢
            by_cases c3 : r < 0
            · rw [← e3, if_pos (decide_eq_true c3)] at hz2
              rw [if_pos c3]
              exact hz2
            · rw [← e3, if_neg (by simpa using c3)] at hz2
              rw [if_neg c3]
              exact hz2
          · rw [if_neg c2] at hz2 ⊢
            exact hz2
    · rw [if_neg h1] at hz2 ⊢
      rw [hO] at hz2
      exact hz2
theorem implCheap_is (wearK : Nat) (hW : wearOk wearK) (k : Nat) (cs : List S34) (fc st : List Int) (x y : Int) (hc : cs.length ≤ 1048576) (hb : fc.length ≤ 1048576) (hs : st.length ≤ 1048576) (hk : wearK + 500000000 ≤ k) : impl_CheapestPlan.f k cs fc st x y = some (cheapP cs fc st x y) := by
  unfold impl_CheapestPlan.f cheapP
  rw [implHead_is k cs fc st x y hc hb hs (by omega), bind_some_]
  by_cases h : hdOk cs fc st x y = true
  · have hin := hdOk_in h
    have hpw := pow_le st.length hin.2.2.1
    have := implCheap_l0 wearK hW cs fc st x y h (2 ^ st.length) k 0 none (by omega) (fun p c e => by simp at e) (by omega)
    rw [if_pos h, if_pos h, shl_is st.length hin.2.2.1]
    exact this
  · rw [if_neg h, if_neg h]

/- A list that was marked still holds its marks. -/
theorem heldInt_loop (n : Nat) (hb : n ≤ 4000000000000000000) (m : Int) (hm : 0 ≤ m ∧ m ≤ 4000000000000000000) : ∀ (d k i : Nat), i + d = n → d < k → laws_heldInt64S.l0 k (iota m n) (m + i) i = some (m + n) := by
  intro d
  induction d with
  | zero =>
    intro k i hi hk
    obtain ⟨k, rfl⟩ : ∃ m, k = m + 1 := ⟨k - 1, by omega⟩
    simp only [laws_heldInt64S.l0]
    rw [if_neg (by rw [iota_length]; omega), show i = n by omega]
  | succ d ih =>
    intro k i hi hk
    obtain ⟨k, rfl⟩ : ∃ m, k = m + 1 := ⟨k - 1, by omega⟩
    simp only [laws_heldInt64S.l0]
    have hr : rd (iota m n) i = m + i := by rw [rd_at _ i (by rw [iota_length]; omega), iota_get]
    rw [if_pos (by rw [iota_length]; omega), if_pos (by omega), if_pos hr, w64s i (by omega), w64 (m + i + 1) (by omega) (by omega), show m + (i : Int) + 1 = m + ((i + 1 : Nat) : Int) by omega]
    exact ih k (i + 1) (by omega) (by omega)
theorem heldInt_is (k : Nat) (n : Nat) (m : Int) (hm : 0 ≤ m ∧ m ≤ 4000000000000000000) (hb : n ≤ 4000000000000000000) (hk : n < k) : laws_heldInt64S.f k (iota m n) m = some (m + n) := by
  unfold laws_heldInt64S.f
  have := heldInt_loop n hb m hm n k 0 (by omega) hk
  simpa using this

/- A list is marked with rising numbers, and still holds them. -/
theorem markInt_loop (n : Nat) (hb : n ≤ 4000000000000000000) (m : Int) (hm : 0 ≤ m ∧ m ≤ 4000000000000000000) : ∀ (d k i : Nat) (l : List Int), i + d = n → d < k → l.length = n → l.take i = (iota m n).take i → laws_markInt64S.l0 k l (m + i) i = some (m + n, iota m n) := by
  intro d
  induction d with
  | zero =>
    intro k i l hi hk hl ht
    obtain ⟨k, rfl⟩ : ∃ m, k = m + 1 := ⟨k - 1, by omega⟩
    simp only [laws_markInt64S.l0]
    rw [if_neg (by omega)]
    rw [List.take_of_length_le (by omega), List.take_of_length_le (by rw [iota_length]; omega)] at ht
    rw [ht, show i = n by omega]
  | succ d ih =>
    intro k i l hi hk hl ht
    obtain ⟨k, rfl⟩ : ∃ m, k = m + 1 := ⟨k - 1, by omega⟩
    simp only [laws_markInt64S.l0]
    rw [if_pos (by omega), if_pos (by omega), w64s i (by omega), Int.toNat_natCast, w64 (m + i + 1) (by omega) (by omega), show m + (i : Int) + 1 = m + ((i + 1 : Nat) : Int) by omega]
    exact ih k (i + 1) _ (by omega) (by omega) (by rw [List.length_set]; exact hl) (fill_step (iota m n) l i _ (by rw [iota_length]; omega) (by rw [iota_length]; exact hl) ht (iota_get m n i (by rw [iota_length]; omega)))
theorem markInt_is (k : Nat) (l : List Int) (m : Int) (hm : 0 ≤ m ∧ m ≤ 4000000000000000000) (hb : l.length ≤ 4000000000000000000) (hk : l.length < k) : laws_markInt64S.f k l m = some (m + l.length, iota m l.length) := by
  unfold laws_markInt64S.f
  have := markInt_loop l.length hb m hm l.length k 0 l (by omega) hk rfl (by simp)
  simpa using this

/- A plan is marked with rising numbers. -/
def iotaStop : Int → List S49 → List S49
  | _, [] => []
  | m, r :: rs => ⟨m, iota (m + 1) r.f1.length⟩ :: iotaStop (m + 1 + r.f1.length) rs
def cntStop : List S49 → Nat
  | [] => 0
  | r :: rs => 1 + r.f1.length + cntStop rs
theorem cntStop_le : ∀ rs : List S49, (∀ s ∈ rs, s.f1.length ≤ 1048576) → cntStop rs ≤ 1048577 * rs.length
  | [], _ => by simp [cntStop]
  | r :: rs, h => by
    have h1 := h r (by simp)
    have h2 := cntStop_le rs (fun s hs => h s (by simp [hs]))
    simp only [cntStop, List.length_cons]
    omega
theorem markStop_loop : ∀ (todo : List S49) (k : Nat) (pre : List S49) (m : Int), (pre.length + todo.length : Int) ≤ 4000000000000000000 → (∀ s ∈ todo, s.f1.length ≤ 1048576) → 1048577 + todo.length < k → 0 ≤ m → m + cntStop todo ≤ 3000000000000000000 → laws_markStopS.l0 k (pre ++ todo) m pre.length = some (m + cntStop todo, pre ++ iotaStop m todo) := by
  intro todo
  induction todo with
  | nil =>
    intro k pre m h1 hr h2 h3 h4
    obtain ⟨k, rfl⟩ : ∃ m, k = m + 1 := ⟨k - 1, by omega⟩
    simp only [laws_markStopS.l0]
    rw [if_neg (by simp)]
    simp [cntStop, iotaStop]
  | cons r rs ih =>
    intro k pre m h1 hr h2 h3 h4
    obtain ⟨k, rfl⟩ : ∃ m, k = m + 1 := ⟨k - 1, by omega⟩
    have hl := hr r (by simp)
    simp only [cntStop, List.length_cons] at h1 h2 h4
    have e1 : rd_T49 (pre ++ r :: rs) (pre.length : Int) = r := by
      unfold rd_T49
      rw [Int.toNat_natCast, List.getD_eq_getElem?_getD, List.getElem?_append_right (Nat.le_refl _), Nat.sub_self]
      rfl
    have e2 : ∀ v : S49, (pre ++ r :: rs).set ((pre.length : Int)).toNat v = (pre ++ [v]) ++ rs := by
      intro v
      rw [Int.toNat_natCast, List.set_append_right _ _ (Nat.le_refl _), Nat.sub_self]
      simp
    have e3 : pre.length + 1 = (pre ++ [(⟨m, iota (m + 1) r.f1.length⟩ : S49)]).length := by simp
    simp only [laws_markStopS.l0]
    rw [if_pos (by simp; omega), if_pos (by omega), e1, w64 (m + 1) (by omega) (by omega), markInt_is k r.f1 (m + 1) (by omega) (by omega) (by omega), bind_some_, e2, w64s pre.length (by omega), e3, ih k _ (m + 1 + r.f1.length) (by simp; omega) (fun s hs => hr s (by simp [hs])) (by omega) (by omega) (by omega)]
    simp only [cntStop, iotaStop, List.append_assoc, List.singleton_append, Int.natCast_add, Int.add_assoc]
    rfl
theorem markStop_is (k : Nat) (rs : List S49) (m : Int) (hp : shortS rs) (hm : 0 ≤ m ∧ m ≤ 1000000000) (hk : 3000000 < k) : laws_markStopS.f k rs m = some (m + (cntStop rs : Int), iotaStop m rs) := by
  have h1 := hp.1
  have h2 := cntStop_le rs hp.2
  have h3 : 1048577 * rs.length ≤ 1048577 * 1048576 := Nat.mul_le_mul (Nat.le_refl _) h1
  have e1 := markStop_loop rs k [] m (by simp; omega) hp.2 (by omega) (by omega) (by omega)
  exact e1

/- A plan that was marked still holds its marks. -/
theorem heldStop_loop : ∀ (todo : List S49) (k : Nat) (pre : List S49) (m : Int), (pre.length + todo.length : Int) ≤ 4000000000000000000 → (∀ s ∈ todo, s.f1.length ≤ 1048576) → 1048577 + todo.length < k → 0 ≤ m → m + cntStop todo ≤ 3000000000000000000 → laws_heldStopS.l0 k (pre ++ iotaStop m todo) m pre.length = some (m + cntStop todo) := by
  intro todo
  induction todo with
  | nil =>
    intro k pre m h1 hr h2 h3 h4
    obtain ⟨k, rfl⟩ : ∃ m, k = m + 1 := ⟨k - 1, by omega⟩
    simp only [laws_heldStopS.l0]
    rw [if_neg (by simp [iotaStop])]
    simp [cntStop]
  | cons r rs ih =>
    intro k pre m h1 hr h2 h3 h4
    obtain ⟨k, rfl⟩ : ∃ m, k = m + 1 := ⟨k - 1, by omega⟩
    have hl := hr r (by simp)
    simp only [cntStop, List.length_cons] at h1 h2 h4
    have e1 : rd_T49 (pre ++ iotaStop m (r :: rs)) (pre.length : Int) = ⟨m, iota (m + 1) r.f1.length⟩ := by
      unfold rd_T49
      rw [Int.toNat_natCast, List.getD_eq_getElem?_getD, List.getElem?_append_right (Nat.le_refl _), Nat.sub_self]
      rfl
    have e2 : pre ++ iotaStop m (r :: rs) = (pre ++ [(⟨m, iota (m + 1) r.f1.length⟩ : S49)]) ++ iotaStop (m + 1 + r.f1.length) rs := by simp [iotaStop]
    have e3 : pre.length + 1 = (pre ++ [(⟨m, iota (m + 1) r.f1.length⟩ : S49)]).length := by simp
    simp only [laws_heldStopS.l0]
    rw [if_pos (by simp [iotaStop]; omega), if_pos (by omega), e1, if_pos rfl, w64 (m + 1) (by omega) (by omega)]
    try dsimp only
    rw [heldInt_is k r.f1.length (m + 1) (by omega) (by omega) (by omega), bind_some_, if_neg (by omega), w64s pre.length (by omega), e3, e2, ih k _ (m + 1 + r.f1.length) (by simp; omega) (fun s hs => hr s (by simp [hs])) (by omega) (by omega) (by omega)]
    simp only [cntStop, Int.natCast_add, Int.add_assoc]
    rfl
theorem heldStop_is (k : Nat) (rs : List S49) (m : Int) (hp : shortS rs) (hm : 0 ≤ m ∧ m ≤ 1000000000) (hk : 3000000 < k) : laws_heldStopS.f k (iotaStop m rs) m = some (m + (cntStop rs : Int)) := by
  have h1 := hp.1
  have h2 := cntStop_le rs hp.2
  have h3 : 1048577 * rs.length ≤ 1048577 * 1048576 := Nat.mul_le_mul (Nat.le_refl _) h1
  have e1 := heldStop_loop rs k [] m (by simp; omega) hp.2 (by omega) (by omega) (by omega)
  exact e1

/- A list of structs is equal to itself. -/
theorem eqCutterS_loop (a : List S34) (hb : a.length ≤ 9223372036854775807) : ∀ (d k i : Nat), i + d = a.length → d < k → laws_eqCutterS.l0 k a a i = some true := by
  intro d
  induction d with
  | zero =>
    intro k i hi hk
    obtain ⟨k, rfl⟩ : ∃ m, k = m + 1 := ⟨k - 1, by omega⟩
    simp only [laws_eqCutterS.l0]
    rw [if_neg (by omega)]
  | succ d ih =>
    intro k i hi hk
    obtain ⟨k, rfl⟩ : ∃ m, k = m + 1 := ⟨k - 1, by omega⟩
    simp only [laws_eqCutterS.l0, laws_eqCutter.f, if_true, bind_some_]
    rw [if_pos (by omega), if_pos (by omega), if_pos (by omega), w64s i (by omega)]
    exact ih k (i + 1) (by omega) (by omega)
theorem eqCutterS_refl (k : Nat) (a : List S34) (hb : a.length ≤ 9223372036854775807) (hk : a.length < k) : laws_eqCutterS.f k a a = some true := by
  unfold laws_eqCutterS.f
  rw [if_pos rfl]
  exact eqCutterS_loop a hb a.length k 0 (by omega) hk

/- A list of the law's own structs is copied into the program's. -/
def toCutter (x : S113) : S34 := ⟨x.f0, x.f1⟩
theorem rdLCutter_at (l : List S113) (i : Nat) (h : i < l.length) : rd_T113 l (i : Int) = l[i] := by
  unfold rd_T113
  rw [Int.toNat_natCast, List.getD_eq_getElem?_getD, List.getElem?_eq_getElem h]
  rfl
theorem toCutterS_loop (l : List S113) (hb : l.length ≤ 9223372036854775807) : ∀ (d k i : Nat) (acc : List S34), i + d = l.length → d < k → acc.length = l.length → acc.take i = (l.map toCutter).take i → laws_toCutterS.l0 k l acc i = some (l.map toCutter) := by
  intro d
  induction d with
  | zero =>
    intro k i acc hi hk ha ht
    obtain ⟨k, rfl⟩ : ∃ m, k = m + 1 := ⟨k - 1, by omega⟩
    simp only [laws_toCutterS.l0]
    rw [if_neg (by omega)]
    rw [List.take_of_length_le (by omega), List.take_of_length_le (by rw [List.length_map]; omega)] at ht
    rw [ht]
  | succ d ih =>
    intro k i acc hi hk ha ht
    obtain ⟨k, rfl⟩ : ∃ m, k = m + 1 := ⟨k - 1, by omega⟩
    simp only [laws_toCutterS.l0, laws_toCutter.f, bind_some_]
    rw [if_pos (by omega), if_pos (by omega), if_pos (by omega), w64s i (by omega), Int.toNat_natCast]
    refine ih k (i + 1) _ (by omega) (by omega) (by rw [List.length_set]; exact ha) (fill_step (l.map toCutter) acc i _ (by rw [List.length_map]; omega) (by rw [List.length_map]; exact ha) ht ?_)
    rw [List.getElem_map, rdLCutter_at l i (by omega)]
    rfl
theorem toCutterS_is (k : Nat) (l : List S113) (hb : l.length ≤ 1048576) (hk : l.length < k) : laws_toCutterS.f k l = some (l.map toCutter) := by
  unfold laws_toCutterS.f
  rw [if_pos (by omega), if_pos (by omega)]
  exact toCutterS_loop l (by omega) l.length k 0 _ (by omega) hk (by simp) (by simp)

/- A head is copied, measured, and equal to itself. -/
theorem toHead_is (k : Nat) (cs : List S113) (fc st : List Int) (x y : Int) (hc : cs.length ≤ 1048576) (hb : fc.length ≤ 1048576) (hs : st.length ≤ 1048576) (hk : cs.length + fc.length + st.length < k) : laws_toHead.f k cs fc st x y = some (cs.map toCutter, fc, st, x, y) := by
  unfold laws_toHead.f
  rw [toCutterS_is k cs hc (by omega), bind_some_, toInt_is k fc (by omega) (by omega), bind_some_, toInt_is k st (by omega) (by omega), bind_some_]
theorem eqHead_refl (k : Nat) (cs : List S34) (fc st : List Int) (x y : Int) (hc : cs.length ≤ 1048576) (hb : fc.length ≤ 1048576) (hs : st.length ≤ 1048576) (hk : cs.length + fc.length + st.length < k) : laws_eqHead.f k cs fc st x y cs fc st x y = some true := by
  unfold laws_eqHead.f
  rw [eqCutterS_refl k cs (by omega) (by omega), bind_some_, if_pos rfl, eqInt_is k fc fc (by omega) (by omega), bind_some_, if_pos (decide_eq_true rfl), eqInt_is k st st (by omega) (by omega), bind_some_, if_pos (decide_eq_true rfl), if_pos rfl, if_pos rfl]
theorem szHead_is2 (cs : List S113) (fc st : List Int) (x y : Int) (hc : cs.length ≤ 9223372036854775807) (hb : fc.length ≤ 9223372036854775807) (hs : st.length ≤ 9223372036854775807) : ∃ r, laws_szHead.f cs fc st x y 1048576 = some r ∧ r ≤ 1048576 ∧ (r < 0 ∨ (cs.length ≤ 1048576 ∧ fc.length ≤ 1048576 ∧ st.length ≤ 1048576)) := by
  unfold laws_szHead.f laws_szCutterS.f laws_szInt64S.f
  rw [w64 (1048576 - (cs.length : Int)) (by omega) (by omega)]
  by_cases h1 : 1048576 - (cs.length : Int) < 0
  · rw [if_pos h1, bind_some_, if_pos (by omega)]
    exact ⟨_, rfl, by omega, Or.inl (by omega)⟩
  · rw [if_neg h1, bind_some_, if_neg h1, w64 (1048576 - (cs.length : Int) - (fc.length : Int)) (by omega) (by omega)]
    by_cases h2 : 1048576 - (cs.length : Int) - (fc.length : Int) < 0
    · rw [if_pos h2, bind_some_, if_pos (by omega)]
      exact ⟨_, rfl, by omega, Or.inl (by omega)⟩
    · rw [if_neg h2, bind_some_, if_neg h2, w64 (1048576 - (cs.length : Int) - (fc.length : Int) - (st.length : Int)) (by omega) (by omega)]
      by_cases h3 : 1048576 - (cs.length : Int) - (fc.length : Int) - (st.length : Int) < 0
      · rw [if_pos h3, bind_some_, if_pos (by omega)]
        exact ⟨_, rfl, by omega, Or.inl (by omega)⟩
      · rw [if_neg h3, bind_some_, if_neg h3]
        exact ⟨_, rfl, by omega, Or.inr (by omega)⟩
theorem szHead_is (cs : List S113) (fc st : List Int) (x y : Int) (hc : cs.length ≤ 9223372036854775807) (hb : fc.length ≤ 9223372036854775807) (hs : st.length ≤ 9223372036854775807) : ∃ r, laws_szHead.f cs fc st x y 1048576 = some r ∧ (r < 0 ∨ (cs.length ≤ 1048576 ∧ fc.length ≤ 1048576 ∧ st.length ≤ 1048576)) := by
  obtain ⟨r, h1, _, h2⟩ := szHead_is2 cs fc st x y hc hb hs
  exact ⟨r, h1, h2⟩

/- An element of a list of structs, read at an index. -/
theorem rdCutter_at (l : List S34) (i : Nat) (h : i < l.length) : rd_T34 l (i : Int) = l[i] := by
  unfold rd_T34
  rw [Int.toNat_natCast, List.getD_eq_getElem?_getD, List.getElem?_eq_getElem h]
  rfl
/- A list of structs is marked with rising numbers, and still holds them. -/
def iotaCutter (m : Int) (c : Nat) : List S34 := (List.range c).map fun (i : Nat) => ⟨m + 2 * (i : Int), m + 2 * (i : Int) + 1⟩
theorem iotaCutter_len (m : Int) (c : Nat) : (iotaCutter m c).length = c := by simp [iotaCutter]
theorem iotaCutter_get (m : Int) (c i : Nat) (h : i < (iotaCutter m c).length) : (iotaCutter m c)[i] = ⟨m + 2 * (i : Int), m + 2 * (i : Int) + 1⟩ := by simp [iotaCutter]
theorem rdCutter_set (l : List S34) (i : Nat) (x : S34) (h : i < l.length) : rd_T34 (l.set i x) (i : Int) = x := by
  rw [rdCutter_at _ i (by rw [List.length_set]; exact h), List.getElem_set_self]
theorem markCutterS_loop (c : Nat) (hb : c ≤ 4000000000000000) (m : Int) (hm : 0 ≤ m ∧ m ≤ 4000000000000000) : ∀ (d k i : Nat) (l : List S34), i + d = c → d < k → l.length = c → l.take i = (iotaCutter m c).take i → laws_markCutterS.l0 k l (m + 2 * (i : Int)) i = some (m + 2 * c, iotaCutter m c) := by
  intro d
  induction d with
  | zero =>
    intro k i l hi hk hl ht
    obtain ⟨k, rfl⟩ : ∃ m, k = m + 1 := ⟨k - 1, by omega⟩
    simp only [laws_markCutterS.l0]
    rw [if_neg (by omega)]
    rw [List.take_of_length_le (by omega), List.take_of_length_le (by rw [iotaCutter_len]; omega)] at ht
    rw [ht, show i = c by omega]
  | succ d ih =>
    intro k i l hi hk hl ht
    obtain ⟨k, rfl⟩ : ∃ m, k = m + 1 := ⟨k - 1, by omega⟩
    have e1 : wrap64 (m + 2 * (i : Int) + 1) = m + 2 * (i : Int) + 1 := by
      rw [w64 _ (by omega) (by omega)] <;> omega
    have e2 : wrap64 (m + 2 * (i : Int) + 1 + 1) = m + 2 * ((i + 1 : Nat) : Int) := by
      rw [w64 _ (by omega) (by omega)] <;> omega
    simp only [laws_markCutterS.l0, bind_some_, Int.toNat_natCast, List.set_set, rdCutter_set l i _ (show i < l.length by omega)]
    rw [if_pos (by omega), if_pos (by omega), w64s i (by omega)]
    simp only [Int.add_assoc, Int.reduceAdd] at *
    simp only [e1, e2, Int.add_assoc, Int.reduceAdd]
    have ht2 := fill_step (iotaCutter m c) l i ⟨m + 2 * (i : Int), m + 2 * (i : Int) + 1⟩ (by rw [iotaCutter_len]; omega) (by rw [iotaCutter_len]; exact hl) ht (iotaCutter_get m c i (by rw [iotaCutter_len]; omega))
    have hz := ih k (i + 1) _ (by omega) (by omega) (by rw [List.length_set]; exact hl) ht2
    simp only [Int.add_assoc, Int.reduceAdd, List.set_set] at hz ⊢
    exact hz
theorem markCutterS_is (k : Nat) (l : List S34) (m : Int) (hm : 0 ≤ m ∧ m ≤ 4000000000000000) (hb : l.length ≤ 4000000000000000) (hk : l.length < k) : laws_markCutterS.f k l m = some (m + 2 * l.length, iotaCutter m l.length) := by
  unfold laws_markCutterS.f
  have := markCutterS_loop l.length hb m hm l.length k 0 l (by omega) hk rfl (by simp)
  simpa using this

/- A head is marked. -/
theorem markHead_ok (k : Nat) (cs : List S34) (fc st : List Int) (x y : Int) (hc : cs.length ≤ 1048576) (hb : fc.length ≤ 1048576) (hs : st.length ≤ 1048576) (hk : cs.length + fc.length + st.length < k) : ∃ b, laws_markHead.f k cs fc st x y 1 = some b ∧ 0 ≤ b.1 ∧ b.1 ≤ 4194305 := by
  refine ⟨(1 + 2 * (cs.length : Int) + fc.length + st.length, iotaCutter 1 cs.length, iota (1 + 2 * (cs.length : Int)) fc.length, iota (1 + 2 * (cs.length : Int) + fc.length) st.length), ?_, ?_, ?_⟩
  · unfold laws_markHead.f
    rw [markCutterS_is k cs 1 (by omega) (by omega) (by omega), bind_some_]
    try dsimp only
    rw [markInt_is k fc (1 + 2 * (cs.length : Int)) (by omega) (by omega) (by omega), bind_some_]
    try dsimp only
    rw [markInt_is k st (1 + 2 * (cs.length : Int) + fc.length) (by omega) (by omega) (by omega), bind_some_]
  · dsimp only
    omega
  · dsimp only
    omega

/- What a plan costs, as the reference reckons it. -/
theorem specCost_l0 (cs : List S34) (fc st : List Int) (x y : Int) (p : List S49) (hb : p.length ≤ 1048576) : ∀ (d k i : Nat) (s : Int), i + d = p.length → d < k → spec_l08Cost.l0 k p s i cs fc st x y = some (costGo x y (p.drop i) s) := by
  intro d
  induction d with
  | zero =>
    intro k i s hi hk
    obtain ⟨k, rfl⟩ : ∃ m, k = m + 1 := ⟨k - 1, by omega⟩
    simp only [spec_l08Cost.l0]
    rw [if_neg (by omega), List.drop_of_length_le (by omega)]
    rfl
  | succ d ih =>
    intro k i s hi hk
    obtain ⟨k, rfl⟩ : ∃ m, k = m + 1 := ⟨k - 1, by omega⟩
    have hlt : i < p.length := by omega
    have hd : p.drop i = rd_T49 p (i : Int) :: p.drop (i + 1) := by rw [rdStop_at p i hlt, List.drop_eq_getElem_cons hlt]
    simp only [spec_l08Cost.l0]
    rw [if_pos (by omega), if_pos (by omega), w64s i (by omega), ih k (i + 1) _ (by omega) (by omega), hd]
    rfl

/- The cheapest plan, as the reference answers. -/
theorem specSome_l0 (cs : List S34) (fc st : List Int) (x y : Int) (hs : st.length ≤ 8) (m : Nat) (hm : m < 256) : ∀ (d k i : Nat) (acc : List Int), i + d = st.length → d < k → acc.length ≤ i → spec_l08Some.l0 k m acc i cs fc st x y = some (acc ++ someGo st m d i) := by
  intro d
  induction d with
  | zero =>
    intro k i acc hi hk hl
    obtain ⟨k, rfl⟩ : ∃ m, k = m + 1 := ⟨k - 1, by omega⟩
    simp only [spec_l08Some.l0, someGo]
    rw [if_neg (by omega), List.append_nil]
  | succ d ih =>
    intro k i acc hi hk hl
    obtain ⟨k, rfl⟩ : ∃ m, k = m + 1 := ⟨k - 1, by omega⟩
    simp only [spec_l08Some.l0, someGo]
    rw [if_pos (by omega), u64w i (by omega), if_pos (by omega), bit_if m i hm (by omega), w64s i (by omega)]
    by_cases h : bitB m i = true
    · rw [if_pos h, if_pos h, if_pos (by omega), if_pos (by omega), ih k (i + 1) _ (by omega) (by omega) (by simp only [List.length_append, List.length_cons, List.length_nil]; omega), List.append_assoc, List.singleton_append]
    · rw [if_neg h, if_neg h]
      exact ih k (i + 1) acc (by omega) (by omega) (by omega)
theorem specSome_is (k : Nat) (cs : List S34) (fc st : List Int) (x y : Int) (hs : st.length ≤ 8) (m : Nat) (hm : m < 256) (hk : st.length < k) : spec_l08Some.f k cs fc st x y m = some (someOf st m) := by
  unfold spec_l08Some.f someOf
  have := specSome_l0 cs fc st x y hs m hm st.length k 0 [] (by omega) hk (by simp)
  simpa using this
def costS (b : Option (List S49 × Int)) : Int := match b with | none => -1 | some (_, c) => c
theorem specCheap_l0 (cs : List S34) (fc st : List Int) (x y : Int) (hh : hdOk cs fc st x y = true) : ∀ (d k m : Nat) (b : Option (List S49 × Int)), m + d = 2 ^ st.length → smallB b → 400000000 + 20 * d < k → spec_CheapestPlan.l0 k (outC b).1 (costS b) m cs fc st x y = some (outC (bestGo cs fc st x y d m b)) := by
  intro d
  have hin := hdOk_in hh
  have hpw := pow_le st.length hin.2.2.1
  induction d with
  | zero =>
    intro k m b hm hb hk
    obtain ⟨k, rfl⟩ : ∃ m, k = m + 1 := ⟨k - 1, by omega⟩
    simp only [spec_CheapestPlan.l0, bestGo]
    rw [u64w st.length (by omega), if_pos (by omega), shl_is st.length hin.2.2.1, if_neg (by omega)]
    cases b with
    | none => rfl
    | some q =>
      obtain ⟨p0, c0⟩ := q
      have := (hb p0 c0 rfl).2
      show (if c0 < 0 then some ([], 0, false) else some (p0, c0, true)) = some (p0, c0, true)
      rw [if_neg (by omega)]
  | succ d ih =>
    intro k m b hm hb hk
    obtain ⟨k, rfl⟩ : ∃ m, k = m + 1 := ⟨k - 1, by omega⟩
    have hpl := planAt_in hh m
    have hsm := (someOf_in st m).1
    have hcn := costAt_nn hh m
    have hz2 := ih k (m + 1) (stepC cs fc st x y m b) (by omega) (stepC_small hh m hb) (by omega)
    obtain ⟨bp, hO⟩ : ∃ bp, (outC b).1 = bp := ⟨_, rfl⟩
    obtain ⟨bc, hC⟩ : ∃ bc, costS b = bc := ⟨_, rfl⟩
    rw [hO, hC]
    have hc := specCost_l0 cs fc st x y (planAt cs fc st m) (by omega) (planAt cs fc st m).length k 0 0 (by omega) (by omega)
    rw [show ((0 : Nat) : Int) = 0 from rfl, List.drop_zero] at hc
    simp only [spec_CheapestPlan.l0, bestGo]
    rw [u64w st.length (by omega), if_pos (by omega), shl_is st.length hin.2.2.1, if_pos (by omega), specSome_is k cs fc st x y hin.2.2.1 m (by omega) (by omega), bind_some_, specFor_is k cs fc st x y hh (someOf st m) (by omega) (someOf_rd hh m) (by omega), bind_some_, specEnough_is k cs fc st x y hh _ (forP_in fc _ hin.1 (by omega)).2.1 (by omega), bind_some_, w64s m (by omega)]
    have eok : (failP cs fc (forP cs fc (someOf st m))).isNone = okAt cs fc st m := rfl
    have epl : forP cs fc (someOf st m) = planAt cs fc st m := rfl
    rw [eok, epl]
    unfold spec_l08Cost.f
    rw [hc, bind_some_]
    generalize some (outC (bestGo cs fc st x y d (m + 1) (stepC cs fc st x y m b))) = R at hz2 ⊢
    unfold stepC at hz2
    unfold costOf at hcn
    by_cases h1 : okAt cs fc st m = true
    · rw [if_pos h1] at hz2 ⊢
      cases b with
      | none =>
        dsimp only [costS] at hC
        subst hC
        rw [if_pos (by omega)]
        dsimp only [outC, costS] at hz2
        unfold costOf at hz2
        exact hz2
      | some q =>
        obtain ⟨p0, c0⟩ := q
        have hs0 := hb p0 c0 rfl
        have hls := specLess_l0 (ringsP (planAt cs fc st m)) (ringsP p0) (by rw [ringsP_len]; omega) (ringsP (planAt cs fc st m)).length k 0 (by omega) (by rw [ringsP_len]; omega)
        rw [show ((0 : Nat) : Int) = 0 from rfl] at hls
        have e3 : lessGo (ringsP (planAt cs fc st m)) (ringsP p0) (ringsP (planAt cs fc st m)).length 0 = lessL (ringsP (planAt cs fc st m)) (ringsP p0) := rfl
        rw [e3] at hls
        dsimp only at hz2
        dsimp only [costS] at hC
        dsimp only [outC] at hO
        subst hC
        subst hO
        rw [if_neg (by omega), specRings_is k _ (by omega) (by omega), bind_some_, specRings_is k p0 (by omega) (by omega), bind_some_]
        unfold spec_l08Less.f
        rw [hls, bind_some_]
        unfold costOf at hz2
        by_cases c1 : costGo x y (planAt cs fc st m) 0 < c0
        · rw [if_pos c1] at hz2 ⊢
          exact hz2
        · rw [if_neg c1] at hz2 ⊢
          by_cases c2 : costGo x y (planAt cs fc st m) 0 = c0
          · rw [if_pos c2] at hz2 ⊢
            by_cases c3 : lessL (ringsP (planAt cs fc st m)) (ringsP p0) = true
            · rw [if_pos c3] at hz2 ⊢
              exact hz2
            · rw [if_neg c3] at hz2 ⊢
              exact hz2
          · rw [if_neg c2] at hz2 ⊢
            exact hz2
    · rw [if_neg h1] at hz2 ⊢
      rw [hO, hC] at hz2
      exact hz2
theorem specCheap_is (k : Nat) (cs : List S34) (fc st : List Int) (x y : Int) (hc : cs.length ≤ 1048576) (hb : fc.length ≤ 1048576) (hs : st.length ≤ 1048576) (hk : 500000000 ≤ k) : spec_CheapestPlan.f k cs fc st x y = some (cheapP cs fc st x y) := by
  unfold spec_CheapestPlan.f cheapP
  rw [specIs_is k cs fc st x y hc hb hs (by omega), bind_some_]
  by_cases h : hdOk cs fc st x y = true
  · have hin := hdOk_in h
    have hpw := pow_le st.length hin.2.2.1
    have := specCheap_l0 cs fc st x y h (2 ^ st.length) k 0 none (by omega) (fun p c e => by simp at e) (by omega)
    rw [if_pos h, if_pos h]
    exact this
  · rw [if_neg h, if_neg h]
theorem cheapP_in (cs : List S34) (fc st : List Int) (x y : Int) : shortS (cheapP cs fc st x y).1 := by
  unfold cheapP
  split
  · rename_i hh
    have hin := hdOk_in hh
    have key : ∀ (d m : Nat) (b : Option (List S49 × Int)), (∀ p c, b = some (p, c) → shortS p) → ∀ p c, bestGo cs fc st x y d m b = some (p, c) → shortS p := by
      intro d
      induction d with
      | zero => intro m b hb p c h; exact hb p c h
      | succ d ih =>
        intro m b hb p c h
        simp only [bestGo] at h
        refine ih (m + 1) _ ?_ p c h
        intro p1 c1 h1
        have hp1 := (planAt_in hh m).2.1.1
        unfold stepC at h1
        split at h1
        · cases b with
          | none =>
            simp only [Option.some.injEq, Prod.mk.injEq] at h1
            rw [← h1.1]
            exact hp1
          | some q =>
            obtain ⟨p0, c0⟩ := q
            have h0 := hb p0 c0 rfl
            dsimp only at h1
            split at h1
            · simp only [Option.some.injEq, Prod.mk.injEq] at h1
              rw [← h1.1]
              exact hp1
            · split at h1
              · split at h1
                · simp only [Option.some.injEq, Prod.mk.injEq] at h1
                  rw [← h1.1]
                  exact hp1
                · simp only [Option.some.injEq, Prod.mk.injEq] at h1
                  rw [← h1.1]
                  exact h0
              · simp only [Option.some.injEq, Prod.mk.injEq] at h1
                rw [← h1.1]
                exact h0
        · exact hb p1 c1 h1
    cases hb : bestOf cs fc st x y with
    | none => exact ⟨by simp [outC], by simp [outC]⟩
    | some q =>
      obtain ⟨p, c⟩ := q
      exact key _ _ _ (fun p c e => by simp at e) p c hb
  · exact ⟨by simp, by simp⟩

end Go.Proofs.Ytfcadpkhmkjibaa.P
