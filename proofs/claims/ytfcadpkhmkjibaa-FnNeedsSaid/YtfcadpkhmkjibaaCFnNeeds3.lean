/- What the claim of FnNeeds bears, part 3: functions of the program as plain Lean functions, with proofs that the code comes to their answers, and lemmas on them. -/
import Derived.Test.YtfcadpkhmkjibaaCFnNeeds2
import Derived.Test.YtfcadpkhmkjibaaCFnNeeds0
import Derived.Test.YtfcadpkhmkjibaaCFnNeeds1
set_option linter.unusedVariables false
set_option linter.unusedSimpArgs false
/- What the reference asks of a head. -/
namespace Go.Proofs.Ytfcadpkhmkjibaa.P
open Go.RowKit Go.Proofs.Ytfcadpkhmkjibaa.P Go.Proofs.YtfcadpkhmkjibaaW.PrintWords Go.Proofs.YtfcadpkhmkjibaaW.PrintLast Go.Proofs.YtfcadpkhmkjibaaW.PrintMore
set_option linter.unusedVariables false
set_option linter.unusedSimpArgs false
open Go.RowKit Go.Proofs.YtfcadpkhmkjibaaW.PrintWords Go.Proofs.YtfcadpkhmkjibaaW.PrintLast Go.Proofs.YtfcadpkhmkjibaaW.PrintMore
attribute [local go_sem] max2_int min2_int max_two min_two max_three min_three max_four min_four   -- for this text's walks alone

def spec_l08Range.l0 : Nat → Int → Int → Int → Int → List (S34) → List Int → List Int → Int → Int → Option (Int)
 | 0, _, _, _, _, _, _, _, _, _ => none
 | k + 1, x1, x2, x3, x9, x1000, x1001, x1002, x1003, x1004 => if x9 < (x1001.length : Int) then (if 0 ≤ x1 then (if x1 < (x1000.length : Int) then (if 0 ≤ x9 then (if (wrap64 (x3 + (wrap64 (((rd_T34 x1000 x1).f0) * (rd x1001 x9))))) > ((rd_T34 x1000 x1).f1) then (some (wrap64 (x9 - x2))) else (spec_l08Range.l0 k x1 x2 (wrap64 (x3 + (wrap64 (((rd_T34 x1000 x1).f0) * (rd x1001 x9))))) (wrap64 (x9 + 1)) x1000 x1001 x1002 x1003 x1004)) else (none)) else (none)) else (none)) else (some (wrap64 (x9 - x2)))
def spec_l08Range.f (k : Nat) (l0_0 : List (S34)) (l0_1 : List Int) (l0_2 : List Int) (a0_3 : Int) (a0_4 : Int) (a1 : Int) (a2 : Int) (a3 : Int) : Option (Int) := spec_l08Range.l0 k a1 a2 a3 a2 l0_0 l0_1 l0_2 a0_3 a0_4
/- How far a cutter lasts, as the reference reckons it. -/

mutual
def spec_l08Failure.l0 : Nat → List (S49) → Int → List (S34) → List Int → List Int → Int → Int → Option (Int × Int × Bool)
 | 0, _, _, _, _, _, _, _ => none
 | k + 1, x1, x7, x1000, x1001, x1002, x1003, x1004 => if x7 < (x1001.length : Int) then (spec_l08Failure.l1 k x1 x7 0 x1000 x1001 x1002 x1003 x1004) else (some (0, 0, false))
def spec_l08Failure.l1 : Nat → List (S49) → Int → Int → List (S34) → List Int → List Int → Int → Int → Option (Int × Int × Bool)
 | 0, _, _, _, _, _, _, _, _ => none
 | k + 1, x1, x7, x8, x1000, x1001, x1002, x1003, x1004 => if x8 < (x1000.length : Int) then ((spec_l08Worn.f k x1000 x1001 x1002 x1003 x1004 x1 x8 x7).bind fun t653 => (if 0 ≤ x8 then (if 0 ≤ x7 then (if x7 < (x1001.length : Int) then (if (wrap64 (t653 + (wrap64 (((rd_T34 x1000 x8).f0) * (rd x1001 x7))))) > ((rd_T34 x1000 x8).f1) then (some (x8, x7, true)) else (spec_l08Failure.l1 k x1 x7 (wrap64 (x8 + 1)) x1000 x1001 x1002 x1003 x1004)) else (none)) else (none)) else (none))) else (spec_l08Failure.l0 k x1 (wrap64 (x7 + 1)) x1000 x1001 x1002 x1003 x1004)
end
def spec_l08Failure.f (k : Nat) (l0_0 : List (S34)) (l0_1 : List Int) (l0_2 : List Int) (a0_3 : Int) (a0_4 : Int) (l1 : List (S49)) : Option (Int × Int × Bool) := spec_l08Failure.l0 k l1 0 l0_0 l0_1 l0_2 a0_3 a0_4
/- How worn the cutters are, as the reference reckons it. -/

mutual
def spec_l08For.l0 : Nat → List Int → List (S49) → Int → List (S34) → List Int → List Int → Int → Int → Option ((List (S49)))
 | 0, _, _, _, _, _, _, _, _ => none
 | k + 1, x1, x5, x6, x1000, x1001, x1002, x1003, x1004 => if x6 < (x1.length : Int) then (if (wrap64 (x6 + 1)) < (x1.length : Int) then (if 0 ≤ (wrap64 (x6 + 1)) then (spec_l08For.j1 k x1 x5 x6 (rd x1 (wrap64 (x6 + 1))) x1000 x1001 x1002 x1003 x1004) else (none)) else (spec_l08For.j1 k x1 x5 x6 (x1001.length : Int) x1000 x1001 x1002 x1003 x1004)) else (some x5)
def spec_l08For.j1 : Nat → List Int → List (S49) → Int → Int → List (S34) → List Int → List Int → Int → Int → Option ((List (S49)))
 | 0, _, _, _, _, _, _, _, _, _ => none
 | k + 1, x1, x5, x6, x7, x1000, x1001, x1002, x1003, x1004 => spec_l08For.l1 k x1 x5 x6 x7 (([] : List Int)) 0 x1000 x1001 x1002 x1003 x1004
def spec_l08For.l1 : Nat → List Int → List (S49) → Int → Int → List Int → Int → List (S34) → List Int → List Int → Int → Int → Option ((List (S49)))
 | 0, _, _, _, _, _, _, _, _, _, _, _ => none
 | k + 1, x1, x5, x6, x7, x8, x9, x1000, x1001, x1002, x1003, x1004 => if x9 < (x1000.length : Int) then (if 0 ≤ x6 then (if x6 < (x1.length : Int) then ((spec_l08Worn.f k x1000 x1001 x1002 x1003 x1004 x5 x9 (rd x1 x6)).bind fun t648 => ((spec_l08Range.f k x1000 x1001 x1002 x1003 x1004 x9 (rd x1 x6) t648).bind fun t649 => (if (wrap64 ((rd x1 x6) + t649)) < x7 then (if x8.length < 17592186044416 then (spec_l08For.l1 k x1 x5 x6 x7 (x8 ++ [x9]) (wrap64 (x9 + 1)) x1000 x1001 x1002 x1003 x1004) else (none)) else (spec_l08For.l1 k x1 x5 x6 x7 x8 (wrap64 (x9 + 1)) x1000 x1001 x1002 x1003 x1004)))) else (none)) else (none)) else (if (x8.length : Int) > 0 then (if 0 ≤ x6 then (if x6 < (x1.length : Int) then (if x5.length < 4398046511104 then (spec_l08For.l0 k x1 (x5 ++ [(⟨rd x1 x6, x8⟩ : S49)]) (wrap64 (x6 + 1)) x1000 x1001 x1002 x1003 x1004) else (none)) else (none)) else (none)) else (spec_l08For.l0 k x1 x5 (wrap64 (x6 + 1)) x1000 x1001 x1002 x1003 x1004))
end
def spec_l08For.f (k : Nat) (l0_0 : List (S34)) (l0_1 : List Int) (l0_2 : List Int) (a0_3 : Int) (a0_4 : Int) (l1 : List Int) : Option ((List (S49))) := spec_l08For.l0 k l1 (([] : List (S49))) 0 l0_0 l0_1 l0_2 a0_3 a0_4


def spec_l08Enough.f (k : Nat) (l0_0 : List (S34)) (l0_1 : List Int) (l0_2 : List Int) (a0_3 : Int) (a0_4 : Int) (l1 : List (S49)) : Option (Bool) := (spec_l08Failure.f k l0_0 l0_1 l0_2 a0_3 a0_4 l1).bind fun bt657 => (some (!bt657.2.2))
/- The plan for stops, as the reference makes it. -/



mutual
def spec_PlanFor.j0 : Nat → List Int → Bool → List (S34) → List Int → List Int → Int → Int → Option ((List (S49)) × Bool)
 | 0, _, _, _, _, _, _, _ => none
 | k + 1, x1, x18, x661000, x661001, x661002, x661003, x661004 => if x18 = true then (some (([] : List (S49)), false)) else (spec_PlanFor.l0 k x1 0 x661000 x661001 x661002 x661003 x661004)
def spec_PlanFor.l0 : Nat → List Int → Int → List (S34) → List Int → List Int → Int → Int → Option ((List (S49)) × Bool)
 | 0, _, _, _, _, _, _, _ => none
 | k + 1, x1, x6, x661000, x661001, x661002, x661003, x661004 => if x6 < (x1.length : Int) then (if 0 ≤ x6 then ((spec_l00Has.f k x661002 (rd x1 x6)).bind fun t664 => (if t664 = true then (spec_PlanFor.l0 k x1 (wrap64 (x6 + 1)) x661000 x661001 x661002 x661003 x661004) else (some (([] : List (S49)), false)))) else (none)) else ((spec_l08For.f k x661000 x661001 x661002 x661003 x661004 x1).bind fun t665 => ((spec_l08Enough.f k x661000 x661001 x661002 x661003 x661004 t665).bind fun t668 => (if t668 = true then (some (t665, true)) else (some (([] : List (S49)), false)))))
end
/- The plan for stops, as both sides answer. -/
theorem rises_rd {l : List Int} {lo hi : Int} (h : rises l lo hi = true) : ∀ j : Nat, j < l.length → lo ≤ rd l (j : Int) ∧ rd l (j : Int) ≤ hi := by
  intro j hj
  rw [rd_at l j hj]
  exact rises_mem h _ (List.getElem_mem hj)
theorem stops_in {cs : List S34} {fc st : List Int} {x y : Int} (hh : hdOk cs fc st x y = true) {s : List Int} (h : rises s 0 (wrap64 ((fc.length : Int) - 1)) = true) : ∀ j : Nat, j < s.length → 0 ≤ rd s (j : Int) ∧ rd s (j : Int) < fc.length := by
  intro j hj
  have hin := hdOk_in hh
  have := rises_rd h j hj
  rw [w64 _ (by omega) (by omega)] at this
  omega

mutual
def spec_l08Less.l0 : Nat → List Int → List Int → Int → Option (Bool)
 | 0, _, _, _ => none
 | k + 1, x0, x1, x5 => if x5 < (x0.length : Int) then (spec_l08Less.j1 k x0 x1 x5 (decide (x5 < (x1.length : Int)))) else (spec_l08Less.j1 k x0 x1 x5 false)
def spec_l08Less.j1 : Nat → List Int → List Int → Int → Bool → Option (Bool)
 | 0, _, _, _, _ => none
 | k + 1, x0, x1, x5, x15 => if x15 = true then (if 0 ≤ x5 then (if x5 < (x0.length : Int) then (if x5 < (x1.length : Int) then (if (rd x0 x5) = (rd x1 x5) then (spec_l08Less.l0 k x0 x1 (wrap64 (x5 + 1))) else (some (decide ((rd x0 x5) < (rd x1 x5))))) else (none)) else (none)) else (none)) else (some (decide ((x0.length : Int) < (x1.length : Int))))
end
/- The safe rings whose bits are set. -/
def bitB (m i : Nat) : Bool := decide (m / 2 ^ i % 2 = 1)
theorem bit_is (m i : Nat) (hm : m < 256) (hi : i ≤ 8) : Go.bits .and .i64 (shr .i64 (m : Int) (i : Int)) 1 = ((m / 2 ^ i % 2 : Nat) : Int) := by
  have e : shr .i64 (m : Int) (i : Int) = ((m / 2 ^ i : Nat) : Int) := by
    unfold shr
    rw [Int.toNat_natCast, show min i IntKind.i64.bits = i from Nat.min_eq_left (by show i ≤ 64; omega)]
    simp
  have hlt : m / 2 ^ i < 256 := Nat.lt_of_le_of_lt (Nat.div_le_self _ _) hm
  have hw : ∀ n : Int, 0 ≤ n → n < 2 ^ 8 → IntKind.i64.wrap n = n := by
    intro n h0 h1
    rw [IntKind.wrap_i64]
    omega
  rw [e]
  have hlt2 : ((m / 2 ^ i : Nat) : Int) < 256 := Int.ofNat_lt.mpr hlt
  have := bits_mask .i64 8 (by decide) hw 1 (by decide) ((m / 2 ^ i : Nat) : Int) (Int.natCast_nonneg _) hlt2
  simpa using this
theorem bit_if {α : Type} (m i : Nat) (hm : m < 256) (hi : i ≤ 8) (a b : α) : (if (Go.bits .and .i64 (shr .i64 (m : Int) (i : Int)) 1) = 1 then a else b) = if bitB m i = true then a else b := by
  rw [bit_is m i hm hi]
  unfold bitB
  by_cases h : m / 2 ^ i % 2 = 1
  · rw [if_pos (by omega), if_pos (decide_eq_true h)]
  · rw [if_neg (by omega), if_neg (by simpa using h)]
theorem shl_is (n : Nat) (h : n ≤ 8) : shl .i64 1 (n : Int) = ((2 ^ n : Nat) : Int) := by
  have : n = 0 ∨ n = 1 ∨ n = 2 ∨ n = 3 ∨ n = 4 ∨ n = 5 ∨ n = 6 ∨ n = 7 ∨ n = 8 := by omega
  rcases this with e | e | e | e | e | e | e | e | e <;> subst e <;> decide
def someGo (st : List Int) (m : Nat) : Nat → Nat → List Int
  | 0, _ => []
  | d + 1, i => if bitB m i = true then rd st (i : Int) :: someGo st m d (i + 1) else someGo st m d (i + 1)
def someOf (st : List Int) (m : Nat) : List Int := someGo st m st.length 0
theorem someGo_in (st : List Int) (m : Nat) : ∀ d i : Nat, i + d = st.length → (someGo st m d i).length ≤ d ∧ ∀ v ∈ someGo st m d i, v ∈ st
  | 0, i, _ => by simp [someGo]
  | d + 1, i, h => by
    obtain ⟨h1, h2⟩ := someGo_in st m d (i + 1) (by omega)
    simp only [someGo]
    split
    · refine ⟨by simp only [List.length_cons]; omega, ?_⟩
      intro v hv
      rcases List.mem_cons.mp hv with e | e
      · rw [e, rd_at st i (by omega)]
        exact List.getElem_mem _
      · exact h2 v e
    · exact ⟨by omega, h2⟩
theorem someOf_in (st : List Int) (m : Nat) : (someOf st m).length ≤ st.length ∧ ∀ v ∈ someOf st m, v ∈ st := someGo_in st m st.length 0 (by omega)
theorem someOf_rd {cs : List S34} {fc st : List Int} {x y : Int} (hh : hdOk cs fc st x y = true) (m : Nat) : ∀ j : Nat, j < (someOf st m).length → 0 ≤ rd (someOf st m) (j : Int) ∧ rd (someOf st m) (j : Int) < fc.length := by
  intro j hj
  have hr : rises st 0 (wrap64 ((fc.length : Int) - 1)) = true := by
    unfold hdOk at hh
    simp only [Bool.and_eq_true] at hh
    exact hh.2.2.2.1
  have hm := (someOf_in st m).2 _ (List.getElem_mem hj)
  obtain ⟨i, hi, e⟩ := List.getElem_of_mem hm
  have := stops_in hh hr i hi
  rw [rd_at st i hi, e] at this
  rw [rd_at _ j hj]
  exact this
def lessGo (a b : List Int) : Nat → Nat → Bool
  | 0, _ => decide (a.length < b.length)
  | d + 1, i => if i < b.length then (if rd a (i : Int) = rd b (i : Int) then lessGo a b d (i + 1) else decide (rd a (i : Int) < rd b (i : Int))) else false
def lessL (a b : List Int) : Bool := lessGo a b a.length 0
theorem implLess_l0 (a b : List Int) (ha : a.length ≤ 1048576) : ∀ (d k i : Nat), i + d = a.length → d < k → ∃ r, slices_Compare_int64_int64.l0 k a b a a.length i = some r ∧ decide (r < 0) = lessGo a b d i := by
  intro d
  induction d with
  | zero =>
    intro k i hi hk
    obtain ⟨k, rfl⟩ : ∃ m, k = m + 1 := ⟨k - 1, by omega⟩
    simp only [slices_Compare_int64_int64.l0, lessGo]
    rw [if_neg (by omega)]
    by_cases h : (a.length : Int) < (b.length : Int)
    · rw [if_pos h]
      exact ⟨_, rfl, by rw [decide_eq_true (show a.length < b.length by omega)]; rfl⟩
    · rw [if_neg h]
      exact ⟨_, rfl, by rw [decide_eq_false (show ¬ a.length < b.length by omega)]; rfl⟩
  | succ d ih =>
    intro k i hi hk
    obtain ⟨k, rfl⟩ : ∃ m, k = m + 1 := ⟨k - 1, by omega⟩
    simp only [slices_Compare_int64_int64.l0, lessGo]
    rw [if_pos (by omega), if_pos (by omega), if_pos (by omega)]
    by_cases h : (i : Int) ≥ (b.length : Int)
    · rw [if_pos h, if_neg (by omega)]
      exact ⟨1, rfl, rfl⟩
    · rw [if_neg h, if_pos (by omega), if_pos (show i < b.length by omega), w64s i (by omega)]
      simp only [cmp_Compare_int64.f, cmp_isNaN_int64.f, bne_self_eq_false, bind_some_]
      rw [if_neg (by simp), if_neg (by simp)]
      by_cases c1 : rd a (i : Int) < rd b (i : Int)
      · rw [if_pos c1, bind_some_, if_neg (by omega), if_neg (by omega), decide_eq_true c1]
        exact ⟨_, rfl, rfl⟩
      · rw [if_neg c1]
        by_cases c2 : rd a (i : Int) > rd b (i : Int)
        · rw [if_pos c2, bind_some_, if_neg (by omega), if_neg (by omega), decide_eq_false c1]
          exact ⟨_, rfl, rfl⟩
        · rw [if_neg c2, bind_some_, if_pos rfl, if_pos (by omega)]
          exact ih k (i + 1) (by omega) (by omega)
/- The cheapest plan, as both sides answer. -/
def costOf (x y : Int) (p : List S49) : Int := costGo x y p 0
theorem costGo_in (x y : Int) (hx : 0 ≤ x ∧ x ≤ 10000) (hy : 0 ≤ y ∧ y ≤ 10000) : ∀ (p : List S49) (s : Int), (∀ t ∈ p, t.f1.length ≤ 5) → p.length ≤ 1000000 → 0 ≤ s → s + 60000 * p.length ≤ 1000000000000 → costGo x y p s = s + (p.map fun t => x + y * (t.f1.length : Int)).sum ∧ 0 ≤ (p.map fun t => x + y * (t.f1.length : Int)).sum ∧ (p.map fun t => x + y * (t.f1.length : Int)).sum ≤ 60000 * p.length
  | [], s, _, _, h0, _ => by simp [costGo]
  | t :: p, s, h5, hl, h0, h1 => by
    have ht := h5 t (by simp)
    have b1 : 0 ≤ y * (t.f1.length : Int) := Int.mul_nonneg hy.1 (by omega)
    have b2 : y * (t.f1.length : Int) ≤ 10000 * (t.f1.length : Int) := Int.mul_le_mul_of_nonneg_right hy.2 (by omega)
    simp only [List.length_cons] at hl h1
    have e1 := w64 (y * (t.f1.length : Int)) (by omega) (by omega)
    have e2 := w64 (x + y * (t.f1.length : Int)) (by omega) (by omega)
    have e3 := w64 (s + (x + y * (t.f1.length : Int))) (by omega) (by omega)
    obtain ⟨i1, i2, i3⟩ := costGo_in x y hx hy p (s + (x + y * (t.f1.length : Int))) (fun q hq => h5 q (by simp [hq])) (by omega) (by omega) (by omega)
    simp only [costGo, List.map_cons, List.sum_cons, List.length_cons]
    rw [e1, e2, e3, i1]
    clear e1 e2 e3 i1
    exact ⟨by omega, by omega, by omega⟩
def planAt (cs : List S34) (fc st : List Int) (m : Nat) : List S49 := forP cs fc (someOf st m)
def okAt (cs : List S34) (fc st : List Int) (m : Nat) : Bool := (failP cs fc (planAt cs fc st m)).isNone
theorem pick_small (cs : List S34) (fc s : List Int) (hc : cs.length ≤ 5) : ∀ (d i : Nat) (p : List S49), (∀ t ∈ p, t.f1.length ≤ 5) → ∀ t ∈ forGo cs fc s d i p, t.f1.length ≤ 5
  | 0, i, p, h => h
  | d + 1, i, p, h => by
    simp only [forGo]
    refine pick_small cs fc s hc d (i + 1) _ ?_
    intro t ht
    unfold forStep at ht
    split at ht
    · rcases List.mem_append.mp ht with q | q
      · exact h t q
      · rw [List.mem_singleton.mp q]
        have := (pickP_in cs fc p (rd s (i : Int)).toNat (nextAt fc s i)).1
        dsimp only
        omega
    · exact h t ht
theorem planAt_in {cs : List S34} {fc st : List Int} {x y : Int} (hh : hdOk cs fc st x y = true) (m : Nat) : (planAt cs fc st m).length ≤ 8 ∧ planIn cs.length (planAt cs fc st m) ∧ ∀ t ∈ planAt cs fc st m, t.f1.length ≤ 5 := by
  have hin := hdOk_in hh
  have h1 := (someOf_in st m).1
  have h2 := forP_in fc (someOf st m) hin.1 (by omega)
  exact ⟨by have := h2.1; unfold planAt; omega, h2.2, pick_small cs fc _ hin.1 _ _ _ (by simp)⟩
theorem costAt_nn {cs : List S34} {fc st : List Int} {x y : Int} (hh : hdOk cs fc st x y = true) (m : Nat) : 0 ≤ costOf x y (planAt cs fc st m) := by
  have hin := hdOk_in hh
  obtain ⟨h1, h2, h3⟩ := planAt_in hh m
  obtain ⟨e1, e2, _⟩ := costGo_in x y hin.2.2.2.1 hin.2.2.2.2 (planAt cs fc st m) 0 h3 (by omega) (by omega) (by omega)
  unfold costOf
  omega
def ringsP (p : List S49) : List Int := p.map fun t => t.f0
def stepC (cs : List S34) (fc st : List Int) (x y : Int) (m : Nat) (b : Option (List S49 × Int)) : Option (List S49 × Int) :=
  if okAt cs fc st m = true then (match b with
    | none => some (planAt cs fc st m, costOf x y (planAt cs fc st m))
    | some (p, c) => if costOf x y (planAt cs fc st m) < c then some (planAt cs fc st m, costOf x y (planAt cs fc st m)) else if costOf x y (planAt cs fc st m) = c then (if lessL (ringsP (planAt cs fc st m)) (ringsP p) = true then some (planAt cs fc st m, costOf x y (planAt cs fc st m)) else some (p, c)) else some (p, c)) else b
def bestGo (cs : List S34) (fc st : List Int) (x y : Int) : Nat → Nat → Option (List S49 × Int) → Option (List S49 × Int)
  | 0, _, b => b
  | d + 1, m, b => bestGo cs fc st x y d (m + 1) (stepC cs fc st x y m b)
def bestOf (cs : List S34) (fc st : List Int) (x y : Int) : Option (List S49 × Int) := bestGo cs fc st x y (2 ^ st.length) 0 none
def outC (b : Option (List S49 × Int)) : List S49 × Int × Bool := match b with | none => ([], 0, false) | some (p, c) => (p, c, true)
def cheapP (cs : List S34) (fc st : List Int) (x y : Int) : List S49 × Int × Bool := if hdOk cs fc st x y = true then outC (bestOf cs fc st x y) else ([], 0, false)
theorem pow_le (n : Nat) (h : n ≤ 8) : 2 ^ n ≤ 256 := by
  have : 2 ^ n ≤ 2 ^ 8 := Nat.pow_le_pow_right (by omega) h
  omega
theorem ringsP_len (p : List S49) : (ringsP p).length = p.length := List.length_map ..
theorem implRings_l0 (p : List S49) (hp : p.length ≤ 1048576) : ∀ (d k i : Nat) (acc : List Int), i + d = p.length → d < k → acc.length = i → impl_ringsOf.l0 k acc p p.length i = some (acc ++ ringsP (p.drop i)) := by
  intro d
  induction d with
  | zero =>
    intro k i acc hi hk ha
    obtain ⟨k, rfl⟩ : ∃ m, k = m + 1 := ⟨k - 1, by omega⟩
    simp only [impl_ringsOf.l0]
    rw [if_neg (by omega), List.drop_of_length_le (by omega)]
    simp [ringsP]
  | succ d ih =>
    intro k i acc hi hk ha
    obtain ⟨k, rfl⟩ : ∃ m, k = m + 1 := ⟨k - 1, by omega⟩
    have hlt : i < p.length := by omega
    have hd : p.drop i = rd_T49 p (i : Int) :: p.drop (i + 1) := by rw [rdStop_at p i hlt, List.drop_eq_getElem_cons hlt]
    simp only [impl_ringsOf.l0]
    rw [if_pos (by omega), if_pos (by omega), if_pos (by omega), if_pos (by omega), w64s i (by omega), ih k (i + 1) _ (by omega) (by omega) (by simp; omega), hd]
    simp [ringsP]
theorem implRings_is (k : Nat) (p : List S49) (hp : p.length ≤ 1048576) (hk : p.length < k) : impl_ringsOf.f k p = some (ringsP p) := by
  unfold impl_ringsOf.f
  have := implRings_l0 p hp p.length k 0 [] (by omega) hk rfl
  simpa using this
theorem implCheap_l1 (cs : List S34) (fc st : List Int) (x y : Int) (hs : st.length ≤ 8) (bp : List S49) (bc : Int) (bo : Bool) (m : Nat) (hm : m < 256) (n : Int) (out : Option (List S49 × Int × Bool)) (B : Nat)
    (hcont : ∀ k, B ≤ k → impl_CheapestPlan.l1 (k + 1) bp bc bo m (someOf st m) n m st st.length st.length cs fc st x y = out) : ∀ (d k i : Nat) (acc : List Int), i + d = st.length → B + d < k → acc.length ≤ i → acc ++ someGo st m d i = someOf st m → impl_CheapestPlan.l1 k bp bc bo m acc n m st st.length i cs fc st x y = out := by
  intro d
  induction d with
  | zero =>
    intro k i acc hi hk hl ha
    obtain ⟨k, rfl⟩ : ∃ m, k = m + 1 := ⟨k - 1, by omega⟩
    simp only [someGo, List.append_nil] at ha
    rw [ha, show i = st.length by omega]
    exact hcont k (by omega)
  | succ d ih =>
    intro k i acc hi hk hl ha
    obtain ⟨k, rfl⟩ : ∃ m, k = m + 1 := ⟨k - 1, by omega⟩
    simp only [someGo] at ha
    simp only [impl_CheapestPlan.l1]
    rw [if_pos (by omega), if_pos (by omega), if_pos (by omega), bit_if m i hm (by omega), w64s i (by omega)]
    by_cases h : bitB m i = true
    · rw [if_pos h] at ha
      rw [if_pos h, if_pos (by omega)]
      refine ih k (i + 1) _ (by omega) (by omega) (by simp only [List.length_append, List.length_cons, List.length_nil]; omega) ?_
      rw [List.append_assoc, List.singleton_append]
      exact ha
    · rw [if_neg h] at ha
      rw [if_neg h]
      exact ih k (i + 1) acc (by omega) (by omega) (by omega) ha
def smallB (b : Option (List S49 × Int)) : Prop := ∀ p c, b = some (p, c) → p.length ≤ 8 ∧ 0 ≤ c
theorem stepC_small {cs : List S34} {fc st : List Int} {x y : Int} (hh : hdOk cs fc st x y = true) (m : Nat) {b : Option (List S49 × Int)} (hb : smallB b) : smallB (stepC cs fc st x y m b) := by
  have h1 := (planAt_in hh m).1
  have h2 := costAt_nn hh m
  intro p c h
  unfold stepC at h
  split at h
  · cases b with
    | none =>
      simp only [Option.some.injEq, Prod.mk.injEq] at h
      rw [← h.1, ← h.2]
      exact ⟨h1, h2⟩
    | some q =>
      obtain ⟨p0, c0⟩ := q
      have h3 := hb p0 c0 rfl
      dsimp only at h
      split at h
      · simp only [Option.some.injEq, Prod.mk.injEq] at h
        rw [← h.1, ← h.2]
        exact ⟨h1, h2⟩
      · split at h
        · split at h
          · simp only [Option.some.injEq, Prod.mk.injEq] at h
            rw [← h.1, ← h.2]
            exact ⟨h1, h2⟩
          · simp only [Option.some.injEq, Prod.mk.injEq] at h
            rw [← h.1, ← h.2]
            exact h3
        · simp only [Option.some.injEq, Prod.mk.injEq] at h
          rw [← h.1, ← h.2]
          exact h3
  · exact hb p c h
theorem implCheap_l0 (wearK : Nat) (hW : wearOk wearK) (cs : List S34) (fc st : List Int) (x y : Int) (hh : hdOk cs fc st x y = true) : ∀ (d k m : Nat) (b : Option (List S49 × Int)), m + d = 2 ^ st.length → smallB b → wearK + 400000000 + 20 * d < k → impl_CheapestPlan.l0 k (outC b).1 (outC b).2.1 (outC b).2.2 ((2 ^ st.length : Nat) : Int) m cs fc st x y = some (outC (bestGo cs fc st x y d m b)) := by
  intro d
  have hin := hdOk_in hh
  have hpw := pow_le st.length hin.2.2.1
  induction d with
  | zero =>
    intro k m b hm hb hk
    obtain ⟨k, rfl⟩ : ∃ m, k = m + 1 := ⟨k - 1, by omega⟩
    simp only [impl_CheapestPlan.l0, bestGo]
    rw [if_neg (by omega)]
  | succ d ih =>
    intro k m b hm hb hk
    obtain ⟨k, rfl⟩ : ∃ m, k = m + 1 := ⟨k - 1, by omega⟩
    have hpl := planAt_in hh m
    have hsm := (someOf_in st m).1
    have hz := fun k2 hk2 => ih k2 (m + 1) (stepC cs fc st x y m b) (by omega) (stepC_small hh m hb) hk2
    obtain ⟨bp, bc, bo, hO⟩ : ∃ bp bc bo, outC b = (bp, bc, bo) := ⟨_, _, _, rfl⟩
    rw [hO]
    dsimp only
    simp only [impl_CheapestPlan.l0, bestGo]
    rw [if_pos (by omega)]
    refine implCheap_l1 cs fc st x y hin.2.2.1 _ _ _ m (by omega) _ _ (wearK + 400000000 + 20 * d + 5) ?_ st.length k 0 [] (by omega) (by omega) (by simp) rfl
    intro k2 hk2
    have hc := implCost_l0 cs fc st x y (planAt cs fc st m) (by omega) (planAt cs fc st m).length k2 0 0 (by omega) (by omega)
    rw [show ((0 : Nat) : Int) = 0 from rfl, List.drop_zero] at hc
    have hz2 := hz k2 (by omega)
    simp only [impl_CheapestPlan.l1]
    rw [if_neg (by omega), implFor_is wearK hW k2 cs fc st x y hh (someOf st m) (by omega) (someOf_rd hh m) (by omega), bind_some_, w64s m (by omega)]
    dsimp only
    have eok : (failP cs fc (forP cs fc (someOf st m))).isNone = okAt cs fc st m := rfl
    have epl : forP cs fc (someOf st m) = planAt cs fc st m := rfl
    rw [eok, epl]
    unfold impl_Head_cost.f
    rw [hc, bind_some_]
    generalize some (outC (bestGo cs fc st x y d (m + 1) (stepC cs fc st x y m b))) = R at hz2 ⊢
    unfold stepC at hz2
    by_cases h1 : okAt cs fc st m = true
    · rw [if_pos h1] at hz2 ⊢
      cases b with
      | none =>
        simp only [outC, Prod.mk.injEq] at hO
        obtain ⟨rfl, rfl, rfl⟩ := hO
        rw [if_neg (show ¬ (false = true) by decide)]
        unfold costOf at hz2
        exact hz2
      | some q =>
        obtain ⟨p0, c0⟩ := q
        have hs0 := hb p0 c0 rfl
        obtain ⟨r, hr, hr2⟩ := implLess_l0 (ringsP (planAt cs fc st m)) (ringsP p0) (by rw [ringsP_len]; omega) (ringsP (planAt cs fc st m)).length k2 0 (by omega) (by rw [ringsP_len]; omega)
        rw [show ((0 : Nat) : Int) = 0 from rfl] at hr
        have e3 : (decide (r < 0)) = lessL (ringsP (planAt cs fc st m)) (ringsP p0) := hr2
        dsimp only at hz2
        simp only [outC, Prod.mk.injEq] at hO
        obtain ⟨rfl, rfl, rfl⟩ := hO
        rw [if_pos rfl, implRings_is k2 _ (by omega) (by omega), bind_some_, implRings_is k2 p0 (by omega) (by omega), bind_some_]
        unfold slices_Compare_int64_int64.f
        rw [hr, bind_some_]
        unfold costOf at hz2
        by_cases c1 : costGo x y (planAt cs fc st m) 0 < c0
        · rw [if_pos c1] at hz2 ⊢
          exact hz2
        · rw [if_neg c1] at hz2 ⊢
          by_cases c2 : costGo x y (planAt cs fc st m) 0 = c0
          · rw [if_pos c2] at hz2 ⊢
            by_cases c3 : r < 0
            · rw [← e3, if_pos (decide_eq_true c3)] at hz2
              rw [if_pos c3]
              exact hz2
            · rw [← e3, if_neg (by simpa using c3)] at hz2
              rw [if_neg c3]
              exact hz2
          · rw [if_neg c2] at hz2 ⊢
            exact hz2
    · rw [if_neg h1] at hz2 ⊢
      rw [hO] at hz2
      exact hz2
theorem implCheap_is (wearK : Nat) (hW : wearOk wearK) (k : Nat) (cs : List S34) (fc st : List Int) (x y : Int) (hc : cs.length ≤ 1048576) (hb : fc.length ≤ 1048576) (hs : st.length ≤ 1048576) (hk : wearK + 500000000 ≤ k) : impl_CheapestPlan.f k cs fc st x y = some (cheapP cs fc st x y) := by
  unfold impl_CheapestPlan.f cheapP
  rw [implHead_is k cs fc st x y hc hb hs (by omega), bind_some_]
  by_cases h : hdOk cs fc st x y = true
  · have hin := hdOk_in h
    have hpw := pow_le st.length hin.2.2.1
    have := implCheap_l0 wearK hW cs fc st x y h (2 ^ st.length) k 0 none (by omega) (fun p c e => by simp at e) (by omega)
    rw [if_pos h, if_pos h, shl_is st.length hin.2.2.1]
    exact this
  · rw [if_neg h, if_neg h]

/- A number drawn from an input's bytes lies below its bound. -/
theorem u64_in (n : Int) : 0 ≤ IntKind.u64.wrap n ∧ IntKind.u64.wrap n < 18446744073709551616 := by
  simp only [IntKind.wrap, IntKind.bits, IntKind.signed]
  simp
  omega
theorem wraps_u64 (n : Int) (h₀ : 0 ≤ n) (h₁ : n < 2 ^ 64) : IntKind.u64.wrap n = n := by
  simp only [IntKind.wrap, IntKind.bits, IntKind.signed]
  simp
  omega
theorem u64_and255 (x : Int) (h₀ : 0 ≤ x) (h₁ : x < 18446744073709551616) : bits .and .u64 x 255 = x % 256 := bits_mask .u64 64 (by decide) wraps_u64 8 (by decide) x h₀ (by omega)
theorem low_in (n : Int) : 0 ≤ wrap64 (Go.bits .and .u64 (IntKind.u64.wrap n / 1099511627776) 255) ∧ wrap64 (Go.bits .and .u64 (IntKind.u64.wrap n / 1099511627776) 255) ≤ 255 := by
  have h := u64_in n
  have h2 : 0 ≤ IntKind.u64.wrap n / 1099511627776 ∧ IntKind.u64.wrap n / 1099511627776 < 18446744073709551616 := by omega
  rw [u64_and255 _ h2.1 h2.2, w64 _ (by omega) (by omega)]
  omega
theorem next_in (l : List Int) (hl : ∀ x ∈ l, (Lit.int .u8 x).wf = true) (s e : Int) (hs : 0 ≤ s ∧ s ≤ 1000000000000) : ∃ r e', spec_l00Src_next.f l s e = some (r, s + 1, e') ∧ 0 ≤ r ∧ r ≤ 255 := by
  unfold spec_l00Src_next.f
  rw [w64 (s + 1) (by omega) (by omega)]
  by_cases h1 : s < (l.length : Int)
  · obtain ⟨j, rfl⟩ : ∃ j : Nat, s = j := ⟨s.toNat, by omega⟩
    have hr := wfu8 (hl _ (List.getElem_mem (show j < l.length by omega)))
    rw [if_pos h1, if_pos (by omega), if_pos (by omega), rd_at l j (by omega), w64 _ (by omega) (by omega)]
    exact ⟨_, _, rfl, hr.1, hr.2⟩
  · rw [if_neg h1]
    by_cases h2 : s + 1 ≤ (l.length : Int)
    · omega
    · rw [if_neg h2]
      exact ⟨_, _, rfl, (low_in _).1, (low_in _).2⟩
theorem pick_in (l : List Int) (hl : ∀ x ∈ l, (Lit.int .u8 x).wf = true) (s e n : Int) (hs : 0 ≤ s ∧ s ≤ 900000000000) (hn : 1 ≤ n ∧ n ≤ 1000000) : ∃ r s' e', spec_l00Src_pick.f l s e n = some (r, s', e') ∧ (0 ≤ r ∧ r < n) ∧ (s ≤ s' ∧ s' ≤ s + 2) := by
  unfold spec_l00Src_pick.f
  by_cases h1 : n ≤ 1
  · rw [if_pos h1]
    exact ⟨_, _, _, rfl, by omega, by omega⟩
  · rw [if_neg h1]
    obtain ⟨r, e1, h, r1, r2⟩ := next_in l hl s e (by omega)
    rw [h, bind_some_]
    by_cases h2 : n > 200
    · obtain ⟨q, e2, h', q1, q2⟩ := next_in l hl (s + 1) e1 (by omega)
      rw [if_pos h2, h', bind_some_, if_neg (by omega), w64 (r * 256) (by omega) (by omega), w64 (r * 256 + q) (by omega) (by omega)]
      exact ⟨_, _, _, rfl, ⟨Int.tmod_nonneg _ (by omega), Int.tmod_lt_of_pos _ (by omega)⟩, by dsimp only; omega⟩
    · rw [if_neg h2, if_neg (by omega)]
      exact ⟨_, _, _, rfl, ⟨Int.tmod_nonneg _ r1, Int.tmod_lt_of_pos _ (by omega)⟩, by dsimp only; omega⟩

/- An element of a list of structs, read at an index. -/
theorem rdCutter_at (l : List S34) (i : Nat) (h : i < l.length) : rd_T34 l (i : Int) = l[i] := by
  unfold rd_T34
  rw [Int.toNat_natCast, List.getD_eq_getElem?_getD, List.getElem?_eq_getElem h]
  rfl
/- What a law draws is a valid head with a plan. -/
theorem rd_app1 (l : List Int) (v : Int) (i : Nat) : rd (l ++ [v]) i = if i < l.length then rd l i else if i = l.length then v else 0 := by
  unfold rd
  rw [Int.toNat_natCast, List.getD_eq_getElem?_getD, List.getD_eq_getElem?_getD]
  by_cases h : i < l.length
  · rw [if_pos h, List.getElem?_append_left h]
  · rw [if_neg h, List.getElem?_append_right (by omega)]
    by_cases h2 : i = l.length
    · rw [if_pos h2]; subst h2; simp
    · rw [if_neg h2]
      obtain ⟨m, hm⟩ : ∃ m, i - l.length = m + 1 := ⟨i - l.length - 1, by omega⟩
      rw [hm]; rfl
def rz (l : List Int) (lo hi : Int) : Prop := (∀ j : Nat, j < l.length → lo ≤ rd l (j : Int) ∧ rd l (j : Int) < hi) ∧ (∀ j : Nat, j + 1 < l.length → rd l (j : Int) < rd l ((j + 1 : Nat) : Int))
theorem rz_nil (lo hi : Int) : rz [] lo hi := ⟨fun j h => by simp at h, fun j h => by simp at h⟩
theorem rz_up {l : List Int} {lo h1 h2 : Int} (h : rz l lo h1) (h3 : h1 ≤ h2) : rz l lo h2 := ⟨fun j hj => by have := h.1 j hj; omega, h.2⟩
theorem rz_app {l : List Int} {lo h1 h2 v : Int} (h : rz l lo h1) (h3 : h1 ≤ v) (h4 : lo ≤ v) (h5 : v < h2) : rz (l ++ [v]) lo h2 := by
  constructor
  · intro j hj
    rw [List.length_append, List.length_singleton] at hj
    rw [rd_app1]
    by_cases e : j < l.length
    · rw [if_pos e]; have := h.1 j e; omega
    · rw [if_neg e, if_pos (by omega)]; omega
  · intro j hj
    rw [List.length_append, List.length_singleton] at hj
    rw [rd_app1, rd_app1, if_pos (by omega)]
    by_cases e : j + 1 < l.length
    · rw [if_pos e]; exact h.2 j e
    · rw [if_neg e, if_pos (by omega)]; have := h.1 j (by omega); omega
theorem rz_rises {l : List Int} {lo hi : Int} (h : rz l lo hi) : rises l lo (hi - 1) = true := by
  unfold rises
  rw [upTo_iff]
  intro j _ hj
  have h1 := h.1 j (by omega)
  simp only [riseOk, Bool.and_eq_true, Bool.or_eq_true, decide_eq_true_eq]
  refine ⟨by omega, ?_⟩
  by_cases e : j = 0
  · exact .inl e
  · right
    obtain ⟨i, rfl⟩ : ∃ i, j = i + 1 := ⟨j - 1, by omega⟩
    exact h.2 i (by omega)
def hdFine (h : List S34 × List Int × List Int × Int × Int) : Prop := hdOk h.1 h.2.1 h.2.2.1 h.2.2.2.1 h.2.2.2.2 = true ∧ rz h.2.2.1 0 h.2.1.length
theorem rdCutter_app (l : List S34) (g : S34) (i : Nat) (hi : i < (l ++ [g]).length) : rd_T34 (l ++ [g]) i = if i < l.length then rd_T34 l i else g := by
  rw [rdCutter_at _ i hi]
  by_cases h : i < l.length
  · rw [if_pos h, List.getElem_append_left h, rdCutter_at l i h]
  · rw [if_neg h, List.getElem_append_right (by omega)]
    simp
theorem cuAll_app {l : List S34} {g : S34} (h : ∀ i, i < l.length → cuOk l i = true) (hg : (1 ≤ g.f0 ∧ g.f0 ≤ 100) ∧ (1 ≤ g.f1 ∧ g.f1 ≤ 1000000)) : ∀ i, i < (l ++ [g]).length → cuOk (l ++ [g]) i = true := by
  intro i hi
  unfold cuOk
  rw [rdCutter_app l g i hi]
  by_cases e : i < l.length
  · rw [if_pos e]; exact h i e
  · rw [if_neg e]; simp only [Bool.and_eq_true, decide_eq_true_eq]; exact hg
theorem cuAll_set {l : List S34} {g : S34} (j : Nat) (h : ∀ i, i < l.length → cuOk l i = true) (hg : (1 ≤ g.f0 ∧ g.f0 ≤ 100) ∧ (1 ≤ g.f1 ∧ g.f1 ≤ 1000000)) : ∀ i, i < (l.set j g).length → cuOk (l.set j g) i = true := by
  intro i hi
  have hi2 : i < l.length := by rw [List.length_set] at hi; exact hi
  have h2 := h i hi2
  unfold cuOk at h2 ⊢
  rw [rdCutter_at l i hi2] at h2
  rw [rdCutter_at _ i hi, List.getElem_set]
  by_cases e : j = i
  · rw [if_pos e]; simp only [Bool.and_eq_true, decide_eq_true_eq]; exact hg
  · rw [if_neg e]; exact h2
theorem hd_make (cs : List S34) (fc st : List Int) (x y : Int) (h1 : 1 ≤ cs.length ∧ cs.length ≤ 5) (h2 : fc.length ≤ 60) (h3 : st.length ≤ 8) (h4 : rz st 0 fc.length) (h5 : ∀ i, i < cs.length → cuOk cs i = true) (h6 : ∀ v ∈ fc, 0 ≤ v ∧ v ≤ 100) (h7 : 0 ≤ x ∧ x ≤ 10000) (h8 : 0 ≤ y ∧ y ≤ 10000) : hdOk cs fc st x y = true := by
  unfold hdOk impl_areWithin.all
  have h9 := rz_rises h4
  rw [w64 _ (by omega) (by omega), h9]
  simp only [Bool.and_eq_true, decide_eq_true_eq, List.all_eq_true]
  exact ⟨by omega, by omega, by omega, trivial, (upTo_iff _ _ _).mpr (fun j _ hj => h5 j (by omega)), h6, h7, h8⟩
theorem one_in (l : List Int) (hl : ∀ x ∈ l, (Lit.int .u8 x).wf = true) (s e n : Int) (hs : 0 ≤ s ∧ s ≤ 900000000000) (hn : 1 ≤ n ∧ n ≤ 1000000) : ∃ r s' e', spec_l00Src_one.f l s e n = some (r, s', e') ∧ (s ≤ s' ∧ s' ≤ s + 2) := by
  obtain ⟨r, s', e', h1, _, h2⟩ := pick_in l hl s e n hs hn
  unfold spec_l00Src_one.f
  rw [h1, bind_some_]
  exact ⟨_, _, _, rfl, h2⟩
theorem drawHead_l2 (c : List Int) (fc st : List Int) (x y s e : Int) (h2 : fc.length ≤ 60) (h3 : st.length ≤ 8) (h4 : rz st 0 fc.length) (h6 : ∀ v ∈ fc, 0 ≤ v ∧ v ≤ 100) (h7 : 0 ≤ x ∧ x ≤ 10000) (h8 : 0 ≤ y ∧ y ≤ 10000) : ∀ (d k : Nat) (cs : List S34), cs.length + d = 5 → d < k → 1 ≤ cs.length → (∀ i, i < cs.length → cuOk cs i = true) → ∃ h s' e', spec_l08DrawOk.l2 k c s e cs fc st x y = some (h.1, h.2.1, h.2.2.1, h.2.2.2.1, h.2.2.2.2, s', e') ∧ hdFine h := by
  intro d
  induction d with
  | zero =>
    intro k cs hd hk h1 h5
    obtain ⟨k, rfl⟩ : ∃ m, k = m + 1 := ⟨k - 1, by omega⟩
    simp only [spec_l08DrawOk.l2]
    rw [if_neg (by omega)]
    exact ⟨(cs, fc, st, x, y), _, _, rfl, hd_make cs fc st x y (by omega) h2 h3 h4 h5 h6 h7 h8, h4⟩
  | succ d ih =>
    intro k cs hd hk h1 h5
    obtain ⟨k, rfl⟩ : ∃ m, k = m + 1 := ⟨k - 1, by omega⟩
    simp only [spec_l08DrawOk.l2]
    rw [if_pos (by omega), if_pos (by omega)]
    exact ih k _ (by simp; omega) (by omega) (by simp) (cuAll_app h5 (by simp))
theorem drawHead_l1 (c : List Int) (hc : ∀ x ∈ c, (Lit.int .u8 x).wf = true) (fc st : List Int) (x y : Int) (h2 : fc.length ≤ 60) (h3 : st.length ≤ 8) (h4 : rz st 0 fc.length) (h6 : ∀ v ∈ fc, 0 ≤ v ∧ v ≤ 100) (h7 : 0 ≤ x ∧ x ≤ 10000) (h8 : 0 ≤ y ∧ y ≤ 10000) : ∀ (d k : Nat) (cs : List S34) (s e : Int), cs.length + d ≤ 3 → 1 ≤ cs.length + d → d + 10 < k → (0 ≤ s ∧ s ≤ 100000 - 10 * (d : Int)) → (∀ i, i < cs.length → cuOk cs i = true) → ∃ h s' e', spec_l08DrawOk.l1 k d c s e cs fc st x y = some (h.1, h.2.1, h.2.2.1, h.2.2.2.1, h.2.2.2.2, s', e') ∧ hdFine h := by
  intro d
  induction d with
  | zero =>
    intro k cs s e hd hd1 hk hs h5
    obtain ⟨k, rfl⟩ : ∃ m, k = m + 1 := ⟨k - 1, by omega⟩
    obtain ⟨r, s1, e1, q1, q2⟩ := one_in c hc s e 16 (by omega) (by omega)
    simp only [spec_l08DrawOk.l1]
    rw [if_neg (by omega), q1, bind_some_]
    cases r with
    | true =>
      rw [if_pos rfl, if_pos (by omega), show (0 : Int).toNat = 0 from rfl]
      exact drawHead_l2 c fc st x y s1 e1 h2 h3 h4 h6 h7 h8 (5 - cs.length) k _ (by simp; omega) (by omega) (by simp; omega) (cuAll_set 0 h5 (by simp))
    | false =>
      rw [if_neg (by simp)]
      exact ⟨(cs, fc, st, x, y), _, _, rfl, hd_make cs fc st x y (by omega) h2 h3 h4 h5 h6 h7 h8, h4⟩
  | succ d ih =>
    intro k cs s e hd hd1 hk hs h5
    obtain ⟨k, rfl⟩ : ∃ m, k = m + 1 := ⟨k - 1, by omega⟩
    obtain ⟨a, s1, e1, q1, a1, q2⟩ := pick_in c hc s e 6 (by omega) (by omega)
    obtain ⟨b, s2, e2, q3, b1, q4⟩ := pick_in c hc s1 e1 80 (by omega) (by omega)
    simp only [spec_l08DrawOk.l1]
    rw [if_pos (by omega), q1]
    simp only [bind_some_, q3]
    rw [if_pos (by omega), w64 (1 + a) (by omega) (by omega), w64 (20 + b) (by omega) (by omega), w64 (((d + 1 : Nat) : Int) - 1) (by omega) (by omega), show ((d + 1 : Nat) : Int) - 1 = (d : Int) by omega]
    exact ih k _ s2 e2 (by simp; omega) (by simp; omega) (by omega) (by omega) (cuAll_app h5 ⟨by dsimp only; omega, by dsimp only; omega⟩)
theorem drawHead_l0 (c : List Int) (hc : ∀ x ∈ c, (Lit.int .u8 x).wf = true) (x y : Int) (h7 : 0 ≤ x ∧ x ≤ 10000) (h8 : 0 ≤ y ∧ y ≤ 10000) (n : Nat) (hn : n ≤ 60) : ∀ (d k i : Nat) (fc st : List Int) (s e : Int), i + d = n → d + 20 < k → fc.length = i → st.length ≤ 5 → rz st 0 i → (∀ v ∈ fc, 0 ≤ v ∧ v ≤ 100) → (0 ≤ s ∧ s ≤ 10000 - 10 * (d : Int)) → ∃ h s' e', spec_l08DrawOk.l0 k n i c s e [] fc st x y = some (h.1, h.2.1, h.2.2.1, h.2.2.2.1, h.2.2.2.2, s', e') ∧ hdFine h := by
  intro d
  induction d with
  | zero =>
    intro k i fc st s e hi hk hl hst hr hf hs
    obtain ⟨k, rfl⟩ : ∃ m, k = m + 1 := ⟨k - 1, by omega⟩
    obtain ⟨a, s1, e1, q1, a1, q2⟩ := pick_in c hc s e 3 (by omega) (by omega)
    obtain ⟨m, hm⟩ : ∃ m : Nat, 1 + a = m := ⟨(1 + a).toNat, by omega⟩
    simp only [spec_l08DrawOk.l0]
    rw [if_neg (by omega), q1, bind_some_, w64 (1 + a) (by omega) (by omega), hm]
    exact drawHead_l1 c hc fc st x y (by omega) (by omega) (by rw [hl]; exact hr) hf h7 h8 m k [] s1 e1 (by simp; omega) (by simp; omega) (by omega) (by omega) (by simp)
  | succ d ih =>
    intro k i fc st s e hi hk hl hst hr hf hs
    obtain ⟨k, rfl⟩ : ∃ m, k = m + 1 := ⟨k - 1, by omega⟩
    obtain ⟨a, s1, e1, q1, a1, q2⟩ := pick_in c hc s e 8 (by omega) (by omega)
    obtain ⟨b, s2, e2, q3, q4⟩ := one_in c hc s1 e1 2 (by omega) (by omega)
    have hf2 : ∀ v ∈ fc ++ [a], 0 ≤ v ∧ v ≤ 100 := by
      intro v hv
      rcases List.mem_append.mp hv with h | h
      · exact hf v h
      · rw [List.mem_singleton] at h; omega
    have hl2 : (fc ++ [a]).length = i + 1 := by simp; omega
    have hr2 : rz st 0 ((i + 1 : Nat) : Int) := rz_up hr (by omega)
    simp only [spec_l08DrawOk.l0]
    rw [if_pos (by omega), q1, bind_some_, if_pos (by omega), bind_some_, w64s i (by omega)]
    by_cases h1 : (st.length : Int) < 5
    · rw [if_pos h1, q3, bind_some_]
      cases b with
      | true =>
        rw [if_pos rfl, if_pos (by omega)]
        exact ih k (i + 1) _ _ s2 e2 (by omega) (by omega) hl2 (by simp; omega) (rz_app hr (by omega) (by omega) (by omega)) hf2 (by omega)
      | false =>
        rw [if_neg (by simp)]
        exact ih k (i + 1) _ _ s2 e2 (by omega) (by omega) hl2 hst hr2 hf2 (by omega)
    · rw [if_neg h1]
      exact ih k (i + 1) _ _ s1 e1 (by omega) (by omega) hl2 hst hr2 hf2 (by omega)
theorem drawHead_is (c : List Int) (hc : ∀ x ∈ c, (Lit.int .u8 x).wf = true) (k : Nat) (hk : 100 ≤ k) : ∃ h, spec_R8Head.f k c = some h ∧ hdFine h := by
  unfold spec_R8Head.f spec_l00From.f spec_l08DrawOk.f
  obtain ⟨a, s1, e1, q1, a1, q2⟩ := pick_in c hc 0 0 20 (by omega) (by omega)
  obtain ⟨b, s2, e2, q3, b1, q4⟩ := pick_in c hc s1 e1 8 (by omega) (by omega)
  obtain ⟨n, s3, e3, q5, n1, q6⟩ := pick_in c hc s2 e2 12 (by omega) (by omega)
  obtain ⟨o, s4, e4, q7, q8⟩ := one_in c hc s3 e3 14 (by omega) (by omega)
  simp only [bind_some_, q1, q3, q5, q7]
  obtain ⟨k, rfl⟩ : ∃ m, k = m + 1 := ⟨k - 1, by omega⟩
  cases o with
  | true =>
    rw [if_pos rfl]
    simp only [spec_l08DrawOk.j0]
    obtain ⟨h, s', e', g1, g2⟩ := drawHead_l0 c hc a b (by omega) (by omega) 60 (by omega) 60 k 0 [] [] s4 e4 (by omega) (by omega) rfl (by simp) (rz_nil _ _) (by simp) (by omega)
    rw [show ((60 : Nat) : Int) = 60 from rfl, show ((0 : Nat) : Int) = 0 from rfl] at g1
    rw [g1, bind_some_]
    exact ⟨h, rfl, g2⟩
  | false =>
    rw [if_neg (by simp)]
    obtain ⟨m, hm⟩ : ∃ m : Nat, n = m := ⟨n.toNat, by omega⟩
    subst hm
    simp only [spec_l08DrawOk.j0]
    obtain ⟨h, s', e', g1, g2⟩ := drawHead_l0 c hc a b (by omega) (by omega) m (by omega) m k 0 [] [] s4 e4 (by omega) (by omega) rfl (by simp) (rz_nil _ _) (by simp) (by omega)
    rw [show ((0 : Nat) : Int) = 0 from rfl] at g1
    rw [g1, bind_some_]
    exact ⟨h, rfl, g2⟩

/- Changing a cutter as late as may be: never more changes, never more wear. -/
def segS (s : Nat → Int) (r : Nat) : Nat → Int
  | 0 => 0
  | d + 1 => segS s r d + s (r + d)
def nxt (N : Nat) : List Nat → Nat
  | [] => N
  | r :: _ => r
def grB (s : Nat → Int) (L : Int) (N : Nat) : List Nat → Int → List Bool
  | [], _ => []
  | r :: t, w => decide (w + segS s r (nxt N t - r) > L) :: grB s L N t ((if decide (w + segS s r (nxt N t - r) > L) = true then 0 else w) + segS s r (nxt N t - r))
def okB (s : Nat → Int) (L : Int) (N : Nat) : List Nat → List Bool → Int → Prop
  | [], [], _ => True
  | r :: t, b :: bs, w => (if b = true then 0 else w) + segS s r (nxt N t - r) ≤ L ∧ okB s L N t bs ((if b = true then 0 else w) + segS s r (nxt N t - r))
  | _, _, _ => False
def cntB : List Bool → Nat
  | [] => 0
  | b :: bs => (if b = true then 1 else 0) + cntB bs
theorem segS_nn (s : Nat → Int) (N : Nat) (hs : ∀ n, n < N → 0 ≤ s n) (r : Nat) : ∀ d : Nat, r + d ≤ N → 0 ≤ segS s r d
  | 0, _ => by simp [segS]
  | d + 1, h => by
    have h1 := segS_nn s N hs r d (by omega)
    have h2 := hs (r + d) (by omega)
    simp only [segS]
    omega
theorem segS_mono (s : Nat → Int) (N : Nat) (hs : ∀ n, n < N → 0 ≤ s n) (r e : Nat) : ∀ d : Nat, r + e + d ≤ N → segS s r e ≤ segS s r (e + d)
  | 0, _ => Int.le_refl _
  | d + 1, h => by
    have h1 := segS_mono s N hs r e d (by omega)
    have h2 := hs (r + (e + d)) (by omega)
    rw [show e + (d + 1) = (e + d) + 1 by omega]
    simp only [segS]
    omega
theorem nxt_le {N : Nat} : ∀ {t : List Nat}, (∀ r ∈ t, r ≤ N) → nxt N t ≤ N
  | [], _ => Nat.le_refl _
  | r :: t, h => h r (by simp)
theorem exch (s : Nat → Int) (L : Int) (N : Nat) (hs : ∀ n, n < N → 0 ≤ s n) : ∀ (todo : List Nat) (A : List Bool) (wG wA : Int) (cG cA : Nat), (∀ r ∈ todo, r ≤ N) → 0 ≤ wG → 0 ≤ wA → (cG < cA ∨ (cG = cA ∧ wG ≤ wA)) → okB s L N todo A wA → okB s L N todo (grB s L N todo wG) wG ∧ cG + cntB (grB s L N todo wG) ≤ cA + cntB A
  | [], [], wG, wA, cG, cA, _, _, _, hc, _ => ⟨trivial, by simp only [grB, cntB]; omega⟩
  | [], _ :: _, wG, wA, cG, cA, _, _, _, _, ho => by simp [okB] at ho
  | _ :: _, [], wG, wA, cG, cA, _, _, _, _, ho => by simp [okB] at ho
  | r :: t, b :: bs, wG, wA, cG, cA, hr, hG, hA, hc, ho => by
    have hr2 : ∀ q ∈ t, q ≤ N := fun q hq => hr q (by simp [hq])
    have hn := nxt_le hr2
    have hrN := hr r (by simp)
    have hd : 0 ≤ segS s r (nxt N t - r) := segS_nn s N hs r _ (by omega)
    generalize hD : segS s r (nxt N t - r) = D at hd
    simp only [okB, hD] at ho
    obtain ⟨ho1, ho2⟩ := ho
    simp only [grB, okB, cntB, hD]
    by_cases g : wG + D > L
    · have eg : decide (wG + D > L) = true := decide_eq_true g
      rw [eg, if_pos rfl, if_pos rfl]
      cases b with
      | true =>
        rw [if_pos rfl] at ho1 ho2
        rw [if_pos rfl]
        have := exch s L N hs t bs (0 + D) (0 + D) (cG + 1) (cA + 1) hr2 (by omega) (by omega) (by omega) ho2
        exact ⟨⟨ho1, this.1⟩, by omega⟩
      | false =>
        rw [if_neg (by simp)] at ho1 ho2
        rw [if_neg (by simp)]
        have := exch s L N hs t bs (0 + D) (wA + D) (cG + 1) cA hr2 (by omega) (by omega) (by omega) ho2
        exact ⟨⟨by omega, this.1⟩, by omega⟩
    · have eg : decide (wG + D > L) = false := decide_eq_false g
      rw [eg, if_neg (by simp), if_neg (by simp)]
      cases b with
      | true =>
        rw [if_pos rfl] at ho1 ho2
        rw [if_pos rfl]
        have := exch s L N hs t bs (wG + D) (0 + D) cG (cA + 1) hr2 (by omega) (by omega) (by omega) ho2
        exact ⟨⟨by omega, this.1⟩, by omega⟩
      | false =>
        rw [if_neg (by simp)] at ho1 ho2
        rw [if_neg (by simp)]
        have := exch s L N hs t bs (wG + D) (wA + D) cG cA hr2 (by omega) (by omega) (by omega) ho2
        exact ⟨⟨by omega, this.1⟩, by omega⟩
def wOf (χ : Nat → Bool) (s : Nat → Int) : Nat → Int
  | 0 => 0
  | n + 1 => if χ (n + 1) = true then 0 else wOf χ s n + s n
def wIn (χ : Nat → Bool) (s : Nat → Int) : Nat → Int
  | 0 => 0
  | n + 1 => wOf χ s n + s n
theorem wOf_eq (χ : Nat → Bool) (s : Nat → Int) (n : Nat) : wOf χ s n = if χ n = true then 0 else wIn χ s n := by
  cases n with
  | zero => simp [wOf, wIn]
  | succ n => rfl
theorem wOf_seg (χ : Nat → Bool) (s : Nat → Int) (r : Nat) : ∀ d : Nat, (∀ j, r < j → j ≤ r + d → χ j = false) → wOf χ s (r + d) = wOf χ s r + segS s r d
  | 0, _ => by simp [segS]
  | d + 1, h => by
    have h1 := wOf_seg χ s r d (fun j h1 h2 => h j h1 (by omega))
    have h2 := h (r + d + 1) (by omega) (by omega)
    rw [show r + (d + 1) = (r + d) + 1 by omega]
    simp only [wOf, segS]
    rw [h2, if_neg (by simp), h1]
    omega
theorem wIn_seg (χ : Nat → Bool) (s : Nat → Int) (r d : Nat) (h : ∀ j, r < j → j ≤ r + d → χ j = false) : wIn χ s (r + d + 1) = wOf χ s r + segS s r (d + 1) := by
  simp only [wIn, segS]
  rw [wOf_seg χ s r d h]
  omega
theorem wOf_agree (χ ψ : Nat → Bool) (s : Nat → Int) : ∀ n : Nat, (∀ j, j ≤ n → χ j = ψ j) → wOf χ s n = wOf ψ s n
  | 0, _ => rfl
  | n + 1, h => by
    simp only [wOf]
    rw [h (n + 1) (by omega), wOf_agree χ ψ s n (fun j hj => h j (by omega))]
theorem wIn_agree (χ ψ : Nat → Bool) (s : Nat → Int) (n : Nat) (h : ∀ j, j < n → χ j = ψ j) : wIn χ s n = wIn ψ s n := by
  cases n with
  | zero => rfl
  | succ n =>
    simp only [wIn]
    rw [wOf_agree χ ψ s n (fun j hj => h j (by omega))]
theorem part_ok (χ : Nat → Bool) (s : Nat → Int) (L : Int) (N : Nat) (hs : ∀ n, n < N → 0 ≤ s n) (r nx : Nat) (hr : r < nx) (hn : nx ≤ N) (hx : ∀ j, r < j → j < nx → χ j = false) : (∀ n, r ≤ n → n < nx → wOf χ s n + s n ≤ L) ↔ wOf χ s r + segS s r (nx - r) ≤ L := by
  obtain ⟨d, rfl⟩ : ∃ d, nx = r + d + 1 := ⟨nx - r - 1, by omega⟩
  rw [show r + d + 1 - r = d + 1 by omega]
  constructor
  · intro h
    have := h (r + d) (by omega) (by omega)
    rw [wOf_seg χ s r d (fun j h1 h2 => hx j h1 (by omega))] at this
    simp only [segS]
    omega
  · intro h n h1 h2
    obtain ⟨e, rfl⟩ : ∃ e, n = r + e := ⟨n - r, by omega⟩
    have hm := segS_mono s N hs r (e + 1) (d - e) (by omega)
    rw [show e + 1 + (d - e) = d + 1 by omega] at hm
    rw [wOf_seg χ s r e (fun j h1 h2 => hx j h1 (by omega))]
    simp only [segS] at hm h ⊢
    omega
theorem ok_link (χ : Nat → Bool) (s : Nat → Int) (L : Int) (N : Nat) (hs : ∀ n, n < N → 0 ≤ s n) : ∀ (t : List Nat) (r : Nat), (r :: t).Pairwise (· < ·) → (∀ q ∈ r :: t, q < N) → (∀ n, r < n → χ n = true → n ∈ t) → ((∀ n, r ≤ n → n < N → wOf χ s n + s n ≤ L) ↔ okB s L N (r :: t) ((r :: t).map χ) (wIn χ s r))
  | [], r, hp, hN, hx => by
    have h1 := part_ok χ s L N hs r N (hN r (by simp)) (Nat.le_refl _) (fun j hj _ => by
      rw [Bool.eq_false_iff]
      intro hh
      have := hx j hj hh
      simp at this)
    simp only [List.map, okB, nxt, and_true]
    rw [h1, wOf_eq]
  | q :: t, r, hp, hN, hx => by
    have hp1 := List.pairwise_cons.mp hp
    have hrq : r < q := hp1.1 q (by simp)
    have hqN : q < N := hN q (by simp)
    have hno : ∀ j, r < j → j < q → χ j = false := fun j h1 h2 => by
      rw [Bool.eq_false_iff]
      intro hh
      rcases List.mem_cons.mp (hx j h1 hh) with e | e
      · omega
      · have := (List.pairwise_cons.mp hp1.2).1 j e
        omega
    have h1 := part_ok χ s L N hs r q hrq (by omega) hno
    have h2 := ok_link χ s L N hs t q hp1.2 (fun z hz => hN z (by simp [List.mem_cons.mp hz])) (fun n h3 h4 => by
      rcases List.mem_cons.mp (hx n (by omega) h4) with e | e
      · omega
      · exact e)
    obtain ⟨d, rfl⟩ : ∃ d, q = r + d + 1 := ⟨q - r - 1, by omega⟩
    have h3 := wIn_seg χ s r d (fun j h4 h5 => hno j h4 (by omega))
    have h4 : r + d + 1 - r = d + 1 := by omega
    rw [h4] at h1
    rw [h3] at h2
    rw [List.map_cons]
    simp only [okB, nxt]
    rw [h4]
    simp only [wOf_eq χ s r] at h1 h2
    rw [← h2, ← h1]
    constructor
    · intro h
      exact ⟨fun n a b => h n a (by omega), fun n a b => h n (by omega) b⟩
    · intro h n a b
      by_cases c : n < r + d + 1
      · exact h.1 n a c
      · exact h.2 n (by omega) b
def allOk (χ : Nat → Bool) (s : Nat → Int) (L : Int) (N : Nat) : Prop := ∀ n, n < N → wOf χ s n + s n ≤ L
theorem exchange (χ ψ : Nat → Bool) (s : Nat → Int) (L : Int) (N : Nat) (hs : ∀ n, n < N → 0 ≤ s n) (R : List Nat) (hp : R.Pairwise (· < ·)) (hN : ∀ q ∈ R, q < N) (hχ : ∀ n, χ n = true → n ∈ R) (hψ : ∀ n, ψ n = true → n ∈ R) (hg : R.map ψ = grB s L N R (segS s 0 (nxt N R))) (h : allOk χ s L N) : allOk ψ s L N ∧ cntB (R.map ψ) ≤ cntB (R.map χ) := by
  have hno : ∀ φ : Nat → Bool, (∀ n, φ n = true → n ∈ R) → ∀ j, j < nxt N R → φ j = false := fun φ hφ j hj => by
    rw [Bool.eq_false_iff]
    intro hh
    have h1 := hφ j hh
    cases R with
    | nil => simp at h1
    | cons r t =>
      simp only [nxt] at hj
      rcases List.mem_cons.mp h1 with e | e
      · omega
      · have := (List.pairwise_cons.mp hp).1 j e
        omega
  have hwi : ∀ φ : Nat → Bool, (∀ n, φ n = true → n ∈ R) → wIn φ s (nxt N R) = segS s 0 (nxt N R) := fun φ hφ => by
    generalize hm : nxt N R = m
    cases m with
    | zero => rfl
    | succ m =>
      have := wIn_seg φ s 0 m (fun j h1 h2 => hno φ hφ j (by omega))
      rw [Nat.zero_add] at this
      rw [this]
      simp [wOf]
  have hag : ∀ n, n < nxt N R → wOf χ s n = wOf ψ s n := fun n hn => wOf_agree χ ψ s n (fun j hj => by rw [hno χ hχ j (by omega), hno ψ hψ j (by omega)])
  cases R with
  | nil =>
    refine ⟨fun n hn => ?_, Nat.le_refl _⟩
    rw [← hag n hn]
    exact h n hn
  | cons r t =>
    have hsup : ∀ φ : Nat → Bool, (∀ n, φ n = true → n ∈ r :: t) → ∀ n, r < n → φ n = true → n ∈ t := fun φ hφ n h1 h2 => by
      rcases List.mem_cons.mp (hφ n h2) with e | e
      · omega
      · exact e
    have l1 := (ok_link χ s L N hs t r hp hN (hsup χ hχ)).mp (fun n _ hn => h n hn)
    have l2 := ok_link ψ s L N hs t r hp hN (hsup ψ hψ)
    have e1 := hwi χ hχ
    have e2 := hwi ψ hψ
    simp only [nxt] at e1 e2 hg hag
    rw [e1] at l1
    rw [e2, hg] at l2
    have hrN : r < N := hN r (by simp)
    have hw : 0 ≤ segS s 0 r := segS_nn s N hs 0 r (by omega)
    have hx := exch s L N hs (r :: t) ((r :: t).map χ) (segS s 0 r) (segS s 0 r) 0 0 (fun q hq => Nat.le_of_lt (hN q hq)) hw hw (Or.inr ⟨rfl, Int.le_refl _⟩) l1
    refine ⟨fun n hn => ?_, by rw [hg]; omega⟩
    by_cases c : n < r
    · rw [← hag n c]
      exact h n hn
    · exact l2.mpr hx.1 n (by omega) hn

/- The plan for stops, cutter for cutter: each is changed as late as may be. -/
def chF (p : List S49) (c : Nat) : Nat → Bool := fun n => chg p (c : Int) (n : Int)
theorem wearP_wOf (cs : List S34) (fc : List Int) (p : List S49) (c : Nat) : ∀ n : Nat, wearP cs fc p c n = wOf (chF p c) (wearStep cs fc c) n
  | 0 => rfl
  | n + 1 => by
    simp only [wearP, wOf, chF]
    rw [wearP_wOf cs fc p c n]
    rfl
theorem failC_none (cs : List S34) (fc : List Int) (p : List S49) (n : Nat) : ∀ d i : Nat, failC cs fc p n d i = none ↔ ∀ c, i ≤ c → c < i + d → wearP cs fc p c n + wearStep cs fc c n ≤ (rd_T34 cs (c : Int)).f1
  | 0, i => by simp only [failC, true_iff]; intro c h1 h2; omega
  | d + 1, i => by
    simp only [failC]
    by_cases h : wearP cs fc p i n + wearStep cs fc i n > (rd_T34 cs (i : Int)).f1
    · rw [if_pos h]
      constructor
      · intro e; cases e
      · intro e
        have := e i (Nat.le_refl _) (by omega)
        omega
    · rw [if_neg h, failC_none cs fc p n d (i + 1)]
      constructor
      · intro e c h1 h2
        by_cases q : c = i
        · rw [q]; omega
        · exact e c (by omega) (by omega)
      · intro e c h1 h2
        exact e c (by omega) (by omega)
theorem failN_none (cs : List S34) (fc : List Int) (p : List S49) : ∀ d i : Nat, failN cs fc p d i = none ↔ ∀ n, i ≤ n → n < i + d → ∀ c, c < cs.length → wearP cs fc p c n + wearStep cs fc c n ≤ (rd_T34 cs (c : Int)).f1
  | 0, i => by simp only [failN, true_iff]; intro n h1 h2; omega
  | d + 1, i => by
    simp only [failN]
    cases h : failC cs fc p i cs.length 0 with
    | some c =>
      constructor
      · intro e; cases e
      · intro e
        have := (failC_none cs fc p i cs.length 0).mpr (fun c _ hc => e i (Nat.le_refl _) (by omega) c (by omega))
        rw [h] at this
        cases this
    | none =>
      have h2 := (failC_none cs fc p i cs.length 0).mp h
      dsimp only
      rw [failN_none cs fc p d (i + 1)]
      constructor
      · intro e n h3 h4 c hc
        by_cases q : n = i
        · rw [q]; exact h2 c (by omega) (by omega)
        · exact e n (by omega) (by omega) c hc
      · intro e n h3 h4 c hc
        exact e n (by omega) (by omega) c hc
def limC (cs : List S34) (c : Nat) : Int := (rd_T34 cs (c : Int)).f1
theorem failP_none (cs : List S34) (fc : List Int) (p : List S49) : (failP cs fc p).isNone = true ↔ ∀ c, c < cs.length → allOk (chF p c) (wearStep cs fc c) (limC cs c) fc.length := by
  rw [Option.isNone_iff_eq_none]
  unfold failP
  rw [failN_none]
  constructor
  · intro h c hc n hn
    have := h n (by omega) (by omega) c hc
    rw [wearP_wOf] at this
    exact this
  · intro h n _ hn c hc
    have := h c hc n (by omega)
    rw [wearP_wOf]
    exact this
theorem segS_head (s : Nat → Int) (r : Nat) : ∀ d : Nat, segS s r (d + 1) = s r + segS s (r + 1) d
  | 0 => by simp [segS]
  | d + 1 => by
    have := segS_head s r d
    simp only [segS] at this ⊢
    rw [show r + 1 + d = r + (d + 1) by omega]
    omega
theorem reachGo_ge (ax lim : Int) (fc : List Int) : ∀ (d i : Nat) (s : Int), i ≤ reachGo ax lim fc d i s
  | 0, i, s => Nat.le_refl _
  | d + 1, i, s => by
    simp only [reachGo]
    split
    · exact Nat.le_refl _
    · have := reachGo_ge ax lim fc d (i + 1) (wrap64 (s + wrap64 (ax * rd fc (i : Int))))
      omega
theorem reachGo_lt {cs : List S34} {fc st : List Int} {x y : Int} (hh : hdOk cs fc st x y = true) (c : Nat) (hc : c < cs.length) (nx : Nat) (hnx : nx ≤ fc.length) : ∀ (d i : Nat) (w : Int), i + d = fc.length → i < nx → 0 ≤ w → w ≤ 10000 * (i : Int) →
    (reachGo (rd_T34 cs (c : Int)).f0 (limC cs c) fc d i w < nx ↔ w + segS (wearStep cs fc c) i (nx - i) > limC cs c)
  | 0, i, w, hi, hn, _, _ => by omega
  | d + 1, i, w, hi, hn, h0, h1 => by
    have hin := hdOk_in hh
    have hst := step_in hh c i hc (by omega)
    have hs : ∀ n, n < fc.length → 0 ≤ wearStep cs fc c n := fun n hn => (step_in hh c n hc hn).1
    have e1 : wrap64 ((rd_T34 cs (c : Int)).f0 * rd fc (i : Int)) = wearStep cs fc c i := by
      unfold wearStep at hst ⊢
      rw [w64 _ (by omega) (by omega)]
    have e2 : wrap64 (w + wearStep cs fc c i) = w + wearStep cs fc c i := w64 _ (by omega) (by omega)
    simp only [reachGo]
    rw [e1, e2, show nx - i = (nx - (i + 1)) + 1 by omega, segS_head]
    have hnn := segS_nn (wearStep cs fc c) fc.length hs (i + 1) (nx - (i + 1)) (by omega)
    by_cases g : w + wearStep cs fc c i > limC cs c
    · rw [if_pos g]
      constructor
      · intro _; omega
      · intro _; exact hn
    · rw [if_neg g]
      by_cases q : i + 1 < nx
      · rw [reachGo_lt hh c hc nx hnx d (i + 1) _ (by omega) q (by omega) (by omega)]
        omega
      · have := reachGo_ge (rd_T34 cs (c : Int)).f0 (limC cs c) fc d (i + 1) (w + wearStep cs fc c i)
        rw [show nx - (i + 1) = 0 by omega]
        simp only [segS]
        omega
theorem reachOf_lt {cs : List S34} {fc st : List Int} {x y : Int} (hh : hdOk cs fc st x y = true) (p : List S49) (c r nx : Nat) (hc : c < cs.length) (hr : r < nx) (hnx : nx ≤ fc.length) :
    (reachOf cs fc c r (wearP cs fc p c r) < nx ↔ wearP cs fc p c r + segS (wearStep cs fc c) r (nx - r) > limC cs c) := by
  have hw := wearP_in p hh c hc r (by omega)
  exact reachGo_lt hh c hc nx hnx (fc.length - r) r _ (by omega) hr hw.1 hw.2
theorem mem_pickGo (cs : List S34) (fc : List Int) (p : List S49) (r nx : Nat) (v : Nat) : ∀ d c : Nat, (v : Int) ∈ pickGo cs fc p r nx d c ↔ c ≤ v ∧ v < c + d ∧ reachOf cs fc v r (wearP cs fc p v r) < nx
  | 0, c => by simp only [pickGo, List.not_mem_nil, false_iff]; omega
  | d + 1, c => by
    simp only [pickGo]
    split
    · rename_i h
      rw [List.mem_cons, mem_pickGo cs fc p r nx v d (c + 1)]
      constructor
      · rintro (e | ⟨a, b, e⟩)
        · have : v = c := by omega
          subst this
          exact ⟨Nat.le_refl _, by omega, h⟩
        · exact ⟨by omega, by omega, e⟩
      · rintro ⟨a, b, e⟩
        by_cases q : v = c
        · left; omega
        · right; exact ⟨by omega, by omega, e⟩
    · rename_i h
      rw [mem_pickGo cs fc p r nx v d (c + 1)]
      constructor
      · rintro ⟨a, b, e⟩
        exact ⟨by omega, by omega, e⟩
      · rintro ⟨a, b, e⟩
        refine ⟨?_, by omega, e⟩
        by_cases q : v = c
        · subst q; exact absurd e h
        · omega
theorem mem_pick (cs : List S34) (fc : List Int) (p : List S49) (r nx v : Nat) (hv : v < cs.length) : (v : Int) ∈ pick cs fc p r nx ↔ reachOf cs fc v r (wearP cs fc p v r) < nx := by
  unfold pick
  rw [mem_pickGo]
  constructor
  · rintro ⟨_, _, e⟩; exact e
  · intro e; exact ⟨by omega, by omega, e⟩
theorem chg_step (cs : List S34) (fc : List Int) (r nx : Nat) (p : List S49) (c : Int) (n : Nat) : chg (forStep cs fc r nx p) c (n : Int) = (chg p c (n : Int) || (decide (r = n) && decide (c ∈ pick cs fc p r nx))) := by
  unfold forStep
  split
  · unfold chg
    rw [List.any_append]
    simp only [List.any_cons, List.any_nil, Bool.or_false]
    congr 2
    by_cases q : r = n
    · rw [decide_eq_true q, decide_eq_true (by omega)]
    · rw [decide_eq_false q, decide_eq_false (by omega)]
  · rename_i h
    have : pick cs fc p r nx = [] := by
      cases hp : pick cs fc p r nx with
      | nil => rfl
      | cons a b => rw [hp] at h; simp at h
    rw [this]
    simp
def forL (cs : List S34) (fc : List Int) : List Nat → List S49 → List S49
  | [], p => p
  | r :: t, p => forL cs fc t (forStep cs fc r (nxt fc.length t) p)
theorem forGo_L (cs : List S34) (fc s : List Int) : ∀ (d i : Nat) (p : List S49), i + d = s.length → forGo cs fc s d i p = forL cs fc ((s.drop i).map Int.toNat) p
  | 0, i, p, h => by
    rw [List.drop_of_length_le (by omega)]
    rfl
  | d + 1, i, p, h => by
    rw [drop_at s i (by omega)]
    simp only [forGo, List.map_cons, forL]
    rw [forGo_L cs fc s d (i + 1) _ (by omega)]
    congr 2
    unfold nextAt
    by_cases q : i + 1 < s.length
    · rw [if_pos (by omega), drop_at s (i + 1) q]
      rfl
    · rw [if_neg (by omega), List.drop_of_length_le (by omega)]
      rfl
theorem forP_L (cs : List S34) (fc s : List Int) : forP cs fc s = forL cs fc (s.map Int.toNat) [] := by
  unfold forP
  rw [forGo_L cs fc s s.length 0 [] (by omega)]
  rfl
theorem chg_none {p : List S49} {c : Int} {n : Nat} (h : ∀ t ∈ p, t.f0 ≠ (n : Int)) : chg p c (n : Int) = false := by
  unfold chg
  rw [List.any_eq_false]
  intro t ht
  simp [h t ht]
theorem forL_in {cs : List S34} {fc : List Int} : ∀ (todo : List Nat) (p : List S49), todo.Pairwise (· < ·) → (∀ t ∈ p, ∀ q ∈ todo, t.f0 < (q : Int)) → p.Pairwise (fun a b => a.f0 < b.f0) →
    (forL cs fc todo p).Pairwise (fun a b => a.f0 < b.f0) ∧ ∀ t ∈ forL cs fc todo p, t ∈ p ∨ ∃ q ∈ todo, t.f0 = (q : Int)
  | [], p, _, _, hp => ⟨hp, fun t ht => Or.inl ht⟩
  | r :: t, p, hs, hb, hp => by
    have hs2 := List.pairwise_cons.mp hs
    have hst : ∀ z ∈ forStep cs fc r (nxt fc.length t) p, z ∈ p ∨ z.f0 = (r : Int) := by
      intro z hz
      unfold forStep at hz
      split at hz
      · rcases List.mem_append.mp hz with h | h
        · exact Or.inl h
        · rw [List.mem_singleton.mp h]; exact Or.inr rfl
      · exact Or.inl hz
    have hpw : (forStep cs fc r (nxt fc.length t) p).Pairwise (fun a b => a.f0 < b.f0) := by
      unfold forStep
      split
      · rw [List.pairwise_append]
        refine ⟨hp, by simp, ?_⟩
        intro a ha b hb2
        rw [List.mem_singleton.mp hb2]
        exact hb a ha r (by simp)
      · exact hp
    obtain ⟨h1, h2⟩ := forL_in t (forStep cs fc r (nxt fc.length t) p) hs2.2 (fun z hz q hq => by
      rcases hst z hz with h | h
      · exact hb z h q (by simp [hq])
      · have := hs2.1 q hq
        omega) hpw
    refine ⟨h1, ?_⟩
    intro z hz
    rcases h2 z hz with h | ⟨q, hq, e⟩
    · rcases hst z h with h3 | h3
      · exact Or.inl h3
      · exact Or.inr ⟨r, by simp, h3⟩
    · exact Or.inr ⟨q, by simp [hq], e⟩
theorem forL_chg {cs : List S34} {fc st : List Int} {x y : Int} (hh : hdOk cs fc st x y = true) (c : Nat) (hc : c < cs.length) : ∀ (todo : List Nat) (p : List S49), todo.Pairwise (· < ·) → (∀ q ∈ todo, q < fc.length) → (∀ t ∈ p, ∀ q ∈ todo, t.f0 < (q : Int)) →
    (∀ n : Nat, n ∉ todo → chF (forL cs fc todo p) c n = chF p c n) ∧ todo.map (chF (forL cs fc todo p) c) = grB (wearStep cs fc c) (limC cs c) fc.length todo (wIn (chF p c) (wearStep cs fc c) (nxt fc.length todo))
  | [], p, _, _, _ => ⟨fun n _ => rfl, rfl⟩
  | r :: t, p, hs, hN, hb => by
    have hs2 := List.pairwise_cons.mp hs
    have hrN := hN r (by simp)
    have hnx : nxt fc.length t ≤ fc.length := nxt_le (fun q hq => Nat.le_of_lt (hN q (by simp [hq])))
    have hrn : r < nxt fc.length t := by
      cases t with
      | nil => exact hrN
      | cons q t => exact hs2.1 q (by simp)
    have hst : ∀ z ∈ forStep cs fc r (nxt fc.length t) p, z ∈ p ∨ z.f0 = (r : Int) := by
      intro z hz
      unfold forStep at hz
      split at hz
      · rcases List.mem_append.mp hz with h | h
        · exact Or.inl h
        · rw [List.mem_singleton.mp h]; exact Or.inr rfl
      · exact Or.inl hz
    obtain ⟨h1, h2⟩ := forL_chg hh c hc t (forStep cs fc r (nxt fc.length t) p) hs2.2 (fun q hq => hN q (by simp [hq])) (fun z hz q hq => by
      rcases hst z hz with h | h
      · exact hb z h q (by simp [hq])
      · have := hs2.1 q hq
        omega)
    have hpr : ∀ n : Nat, r ≤ n → (n = r ∨ n ∈ t ∨ True) → (n = r → chF p c n = false) := fun n _ _ e => by
      rw [e]
      exact chg_none (fun z hz => by have := hb z hz r (by simp); omega)
    have hpr0 : chF p c r = false := chg_none (fun z hz => by have := hb z hz r (by simp); omega)
    have hchs : ∀ n : Nat, chF (forStep cs fc r (nxt fc.length t) p) c n = (chF p c n || (decide (r = n) && decide ((c : Int) ∈ pick cs fc p r (nxt fc.length t)))) := fun n => chg_step cs fc r _ p (c : Int) n
    have hwp : wearP cs fc p c r = wIn (chF p c) (wearStep cs fc c) r := by
      rw [wearP_wOf, wOf_eq, hpr0, if_neg (by simp)]
    have hdec : decide ((c : Int) ∈ pick cs fc p r (nxt fc.length t)) = decide (wIn (chF p c) (wearStep cs fc c) r + segS (wearStep cs fc c) r (nxt fc.length t - r) > limC cs c) := by
      rw [← hwp]
      exact decide_eq_decide.mpr ((mem_pick cs fc p r _ c hc).trans (reachOf_lt hh p c r _ hc hrn hnx))
    have hr' : chF (forStep cs fc r (nxt fc.length t) p) c r = decide (wIn (chF p c) (wearStep cs fc c) r + segS (wearStep cs fc c) r (nxt fc.length t - r) > limC cs c) := by
      rw [hchs r, hpr0, decide_eq_true rfl, hdec]
      simp
    have hrt : r ∉ t := fun h => by have := hs2.1 r h; omega
    have hfin : chF (forL cs fc t (forStep cs fc r (nxt fc.length t) p)) c r = decide (wIn (chF p c) (wearStep cs fc c) r + segS (wearStep cs fc c) r (nxt fc.length t - r) > limC cs c) := by rw [h1 r hrt, hr']
    simp only [forL]
    constructor
    · intro n hn
      rw [h1 n (fun h => hn (by simp [h])), hchs n, decide_eq_false (fun e => hn (by simp [e]))]
      simp
    · have hw : wIn (chF (forStep cs fc r (nxt fc.length t) p) c) (wearStep cs fc c) (nxt fc.length t) = (if decide (wIn (chF p c) (wearStep cs fc c) r + segS (wearStep cs fc c) r (nxt fc.length t - r) > limC cs c) = true then 0 else wIn (chF p c) (wearStep cs fc c) r) + segS (wearStep cs fc c) r (nxt fc.length t - r) := by
        rw [← hr']
        have hno : ∀ j, r < j → chF (forStep cs fc r (nxt fc.length t) p) c j = false := fun j a => by
          rw [hchs j, decide_eq_false (by omega), Bool.false_and, Bool.or_false]
          refine chg_none (fun z hz => ?_)
          have := hb z hz r (by simp)
          omega
        have hag : wIn (chF (forStep cs fc r (nxt fc.length t) p) c) (wearStep cs fc c) r = wIn (chF p c) (wearStep cs fc c) r := wIn_agree _ _ _ r (fun j hj => by
          rw [hchs j, decide_eq_false (by omega), Bool.false_and, Bool.or_false])
        rw [← hag]
        generalize chF (forStep cs fc r (nxt fc.length t) p) c = φ at hno
        obtain ⟨d, hd⟩ : ∃ d, nxt fc.length t = r + d + 1 := ⟨nxt fc.length t - r - 1, by omega⟩
        rw [hd, wIn_seg φ (wearStep cs fc c) r d (fun j a _ => hno j a), wOf_eq, show r + d + 1 - r = d + 1 by omega]
      rw [List.map_cons, hfin, h2, hw]
      rfl

/- The plan for the stops of a plan that is enough: enough, and no cutter is changed more often. -/
theorem pw_of_rd : ∀ (l : List Int), (∀ j : Nat, j + 1 < l.length → rd l (j : Int) < rd l ((j + 1 : Nat) : Int)) → l.Pairwise (· < ·)
  | [], _ => List.Pairwise.nil
  | [a], _ => List.pairwise_singleton _ _
  | a :: b :: l, h => by
    have h1 : (b :: l).Pairwise (· < ·) := pw_of_rd (b :: l) (fun j hj => by
      have := h (j + 1) (by simp at hj ⊢; omega)
      rw [rd_at _ _ (by simp at hj ⊢; omega), rd_at _ _ (by simp at hj ⊢; omega)] at this
      rw [rd_at _ _ (by simp at hj ⊢; omega), rd_at _ _ (by simp at hj ⊢; omega)]
      simpa using this)
    have h2 : a < b := by
      have := h 0 (by simp)
      rw [rd_at _ _ (by simp), rd_at _ _ (by simp)] at this
      simpa using this
    refine List.pairwise_cons.mpr ⟨?_, h1⟩
    intro x hx
    rcases List.mem_cons.mp hx with e | e
    · rw [e]; exact h2
    · have := (List.pairwise_cons.mp h1).1 x e
      omega
def cntC (c : Nat) : List S49 → Nat
  | [] => 0
  | t :: p => (if (c : Int) ∈ t.f1 then 1 else 0) + cntC c p
theorem cntB_false : ∀ (R : List Nat) (φ : Nat → Bool), (∀ n ∈ R, φ n = false) → cntB (R.map φ) = 0
  | [], _, _ => rfl
  | r :: R, φ, h => by
    simp only [List.map_cons, cntB]
    rw [h r (by simp), cntB_false R φ (fun n hn => h n (by simp [hn]))]
    rfl
theorem cntB_or : ∀ (R : List Nat) (f g : Nat → Bool), (∀ n ∈ R, f n = true → g n = false) → cntB (R.map fun n => f n || g n) = cntB (R.map f) + cntB (R.map g)
  | [], _, _, _ => rfl
  | r :: R, f, g, h => by
    have h1 := h r (by simp)
    simp only [List.map_cons, cntB]
    rw [cntB_or R f g (fun n hn => h n (by simp [hn]))]
    cases hf : f r with
    | true => rw [h1 hf]; simp; omega
    | false => simp; omega
theorem cntB_one : ∀ (R : List Nat) (q : Nat) (b : Bool), R.Pairwise (· < ·) → q ∈ R → cntB (R.map fun n => decide (q = n) && b) = if b = true then 1 else 0
  | [], q, b, _, h => by simp at h
  | r :: R, q, b, hp, h => by
    have hp2 := List.pairwise_cons.mp hp
    simp only [List.map_cons, cntB]
    by_cases e : q = r
    · subst e
      rw [cntB_false R _ (fun n hn => by have := hp2.1 n hn; rw [decide_eq_false (by omega)]; rfl), decide_eq_true rfl]
      simp
    · rw [cntB_one R q b hp2.2 (by rcases List.mem_cons.mp h with h | h; exact absurd h e; exact h), decide_eq_false e]
      simp
theorem cnt_bits (c : Nat) (R : List Nat) (hR : R.Pairwise (· < ·)) : ∀ p : List S49, p.Pairwise (fun a b => a.f0 < b.f0) → (∀ t ∈ p, ∃ q ∈ R, t.f0 = (q : Int)) → cntC c p = cntB (R.map (chF p c))
  | [], _, _ => by
    rw [cntB_false R _ (fun n _ => by simp [chF, chg])]
    rfl
  | t :: p, hp, h => by
    have hp2 := List.pairwise_cons.mp hp
    obtain ⟨q, hq, e⟩ := h t (by simp)
    have h1 : ∀ n, chF (t :: p) c n = ((decide (q = n) && decide ((c : Int) ∈ t.f1)) || chF p c n) := by
      intro n
      unfold chF chg
      rw [List.any_cons, e]
      congr 2
      by_cases z : q = n
      · rw [decide_eq_true z, decide_eq_true (by omega)]
      · rw [decide_eq_false z, decide_eq_false (by omega)]
    have h2 : (chF (t :: p) c) = fun n => (decide (q = n) && decide ((c : Int) ∈ t.f1)) || chF p c n := funext h1
    rw [h2, cntB_or R _ _ ?_, cntB_one R q _ hR hq, ← cnt_bits c R hR p hp2.2 (fun z hz => h z (by simp [hz]))]
    · simp only [cntC, decide_eq_true_eq]
    · intro n _ hn
      simp only [Bool.and_eq_true, decide_eq_true_eq] at hn
      rw [← hn.1]
      refine chg_none (fun z hz => ?_)
      have := hp2.1 z hz
      omega
theorem for_best {cs : List S34} {fc st : List Int} {x y : Int} (hh : hdOk cs fc st x y = true) (p : List S49) (s : List Int) (hs : s.Pairwise (· < ·)) (hN : ∀ v ∈ s, 0 ≤ v ∧ v < (fc.length : Int)) (hp : p.Pairwise (fun a b => a.f0 < b.f0)) (hr : ∀ t ∈ p, t.f0 ∈ s) (hf : (failP cs fc p).isNone = true) :
    (failP cs fc (forP cs fc s)).isNone = true ∧ ∀ c, c < cs.length → cntC c (forP cs fc s) ≤ cntC c p := by
  have hR : (s.map Int.toNat).Pairwise (· < ·) := by
    rw [List.pairwise_map]
    refine List.Pairwise.imp_of_mem ?_ hs
    intro a b ha hb hab
    have := hN a ha
    have := hN b hb
    omega
  have hRN : ∀ q ∈ s.map Int.toNat, q < fc.length := by
    intro q hq
    obtain ⟨v, hv, rfl⟩ := List.mem_map.mp hq
    have := hN v hv
    omega
  have hrp : ∀ t ∈ p, ∃ q ∈ s.map Int.toNat, t.f0 = (q : Int) := fun t ht => by
    have h1 := hr t ht
    have h2 := hN _ h1
    exact ⟨t.f0.toNat, List.mem_map.mpr ⟨_, h1, rfl⟩, by omega⟩
  obtain ⟨hG1, hG2⟩ := forL_in (cs := cs) (fc := fc) (s.map Int.toNat) [] hR (by simp) List.Pairwise.nil
  have hrG : ∀ t ∈ forL cs fc (s.map Int.toNat) [], ∃ q ∈ s.map Int.toNat, t.f0 = (q : Int) := fun t ht => by
    rcases hG2 t ht with h | h
    · simp at h
    · exact h
  have hsup : ∀ (g : List S49), (∀ t ∈ g, ∃ q ∈ s.map Int.toNat, t.f0 = (q : Int)) → ∀ c n, chF g c n = true → n ∈ s.map Int.toNat := fun g hg c n hn => by
    unfold chF chg at hn
    rw [List.any_eq_true] at hn
    obtain ⟨t, ht, h1⟩ := hn
    simp only [Bool.and_eq_true, decide_eq_true_eq] at h1
    obtain ⟨q, hq, e⟩ := hg t ht
    have : n = q := by omega
    rw [this]
    exact hq
  rw [failP_none] at hf
  rw [forP_L]
  have key := fun (c : Nat) (hc : c < cs.length) => exchange (chF p c) (chF (forL cs fc (s.map Int.toNat) []) c) (wearStep cs fc c) (limC cs c) fc.length (fun n hn => (step_in hh c n hc hn).1) (s.map Int.toNat) hR hRN (hsup p hrp c) (hsup _ hrG c) (by
    rw [(forL_chg hh c hc (s.map Int.toNat) [] hR hRN (by simp)).2]
    congr 1
    generalize nxt fc.length (s.map Int.toNat) = m
    cases m with
    | zero => rfl
    | succ m =>
      have := wIn_seg (chF [] c) (wearStep cs fc c) 0 m (fun j _ _ => by simp [chF, chg])
      rw [Nat.zero_add] at this
      rw [this]
      simp [wOf]) (hf c hc)
  constructor
  · rw [failP_none]
    exact fun c hc => (key c hc).1
  · intro c hc
    rw [cnt_bits c _ hR _ hG1 hrG, cnt_bits c _ hR p hp hrp]
    exact (key c hc).2

/- The cheapest of the plans for the sets of safe rings; every set of safe rings has its number. -/
theorem best_min (cs : List S34) (fc st : List Int) (x y : Int) : ∀ (d m : Nat) (b : Option (List S49 × Int)),
    (∀ m', m ≤ m' → m' < m + d → okAt cs fc st m' = true → ∃ q c, bestGo cs fc st x y d m b = some (q, c) ∧ c ≤ costOf x y (planAt cs fc st m')) ∧
    (∀ q c, b = some (q, c) → ∃ q' c', bestGo cs fc st x y d m b = some (q', c') ∧ c' ≤ c) ∧
    (∀ q c, bestGo cs fc st x y d m b = some (q, c) → b = some (q, c) ∨ ∃ m', m ≤ m' ∧ m' < m + d ∧ okAt cs fc st m' = true ∧ q = planAt cs fc st m' ∧ c = costOf x y (planAt cs fc st m'))
  | 0, m, b => ⟨fun m' h1 h2 => by omega, fun q c h => ⟨q, c, h, Int.le_refl _⟩, fun q c h => Or.inl h⟩
  | d + 1, m, b => by
    obtain ⟨i1, i2, i3⟩ := best_min cs fc st x y d (m + 1) (stepC cs fc st x y m b)
    have hs : (∀ q c, b = some (q, c) → ∃ q' c', stepC cs fc st x y m b = some (q', c') ∧ c' ≤ c) ∧ (okAt cs fc st m = true → ∃ q c, stepC cs fc st x y m b = some (q, c) ∧ c ≤ costOf x y (planAt cs fc st m)) ∧ (∀ q c, stepC cs fc st x y m b = some (q, c) → b = some (q, c) ∨ (okAt cs fc st m = true ∧ q = planAt cs fc st m ∧ c = costOf x y (planAt cs fc st m))) := by
      unfold stepC
      by_cases h : okAt cs fc st m = true
      · rw [if_pos h]
        cases b with
        | none =>
          refine ⟨fun q c e => (by cases e), fun _ => ⟨_, _, rfl, Int.le_refl _⟩, fun q c e => ?_⟩
          simp only [Option.some.injEq, Prod.mk.injEq] at e
          exact Or.inr ⟨h, e.1.symm, e.2.symm⟩
        | some qc =>
          obtain ⟨q0, c0⟩ := qc
          dsimp only
          by_cases h1 : costOf x y (planAt cs fc st m) < c0
          · rw [if_pos h1]
            refine ⟨fun q c e => ⟨_, _, rfl, ?_⟩, fun _ => ⟨_, _, rfl, Int.le_refl _⟩, fun q c e => ?_⟩
            · simp only [Option.some.injEq, Prod.mk.injEq] at e
              omega
            · simp only [Option.some.injEq, Prod.mk.injEq] at e
              exact Or.inr ⟨h, e.1.symm, e.2.symm⟩
          · rw [if_neg h1]
            by_cases h2 : costOf x y (planAt cs fc st m) = c0
            · rw [if_pos h2]
              by_cases h3 : lessL (ringsP (planAt cs fc st m)) (ringsP q0) = true
              · rw [if_pos h3]
                refine ⟨fun q c e => ⟨_, _, rfl, ?_⟩, fun _ => ⟨_, _, rfl, Int.le_refl _⟩, fun q c e => ?_⟩
                · simp only [Option.some.injEq, Prod.mk.injEq] at e
                  omega
                · simp only [Option.some.injEq, Prod.mk.injEq] at e
                  exact Or.inr ⟨h, e.1.symm, e.2.symm⟩
              · rw [if_neg h3]
                exact ⟨fun q c e => ⟨q, c, e, Int.le_refl _⟩, fun _ => ⟨_, _, rfl, by omega⟩, fun q c e => Or.inl e⟩
            · rw [if_neg h2]
              exact ⟨fun q c e => ⟨q, c, e, Int.le_refl _⟩, fun _ => ⟨_, _, rfl, by omega⟩, fun q c e => Or.inl e⟩
      · rw [if_neg h]
        exact ⟨fun q c e => ⟨q, c, e, Int.le_refl _⟩, fun e => absurd e h, fun q c e => Or.inl e⟩
    obtain ⟨s1, s2, s3⟩ := hs
    simp only [bestGo]
    refine ⟨fun m' h1 h2 h3 => ?_, fun q c h => ?_, fun q c h => ?_⟩
    · by_cases e : m' = m
      · subst e
        obtain ⟨q, c, e1, e2⟩ := s2 h3
        obtain ⟨q', c', e3, e4⟩ := i2 q c e1
        exact ⟨q', c', e3, by omega⟩
      · exact i1 m' (by omega) (by omega) h3
    · obtain ⟨q1, c1, e1, e2⟩ := s1 q c h
      obtain ⟨q', c', e3, e4⟩ := i2 q1 c1 e1
      exact ⟨q', c', e3, by omega⟩
    · rcases i3 q c h with e | ⟨m', a1, a2, a3⟩
      · rcases s3 q c e with e2 | e2
        · exact Or.inl e2
        · exact Or.inr ⟨m, by omega, by omega, e2⟩
      · exact Or.inr ⟨m', by omega, by omega, a3⟩
theorem mask_of : ∀ (n : Nat) (f : Nat → Bool), ∃ m, m < 2 ^ n ∧ ∀ i, i < n → bitB m i = f i
  | 0, f => ⟨0, by simp, fun i hi => by omega⟩
  | n + 1, f => by
    obtain ⟨m, h1, h2⟩ := mask_of n (fun i => f (i + 1))
    refine ⟨(if f 0 = true then 1 else 0) + 2 * m, ?_, ?_⟩
    · rw [Nat.pow_succ]
      split <;> omega
    · intro i hi
      cases i with
      | zero =>
        unfold bitB
        rw [Nat.pow_zero, Nat.div_one]
        cases f 0 with
        | true => rw [if_pos rfl]; exact decide_eq_true (by omega)
        | false => rw [if_neg (by simp)]; exact decide_eq_false (by omega)
      | succ i =>
        have h3 := h2 i (by omega)
        unfold bitB at h3 ⊢
        have e : ((if f 0 = true then 1 else 0) + 2 * m) / 2 ^ (i + 1) = m / 2 ^ i := by
          rw [Nat.pow_succ, Nat.mul_comm (2 ^ i) 2, ← Nat.div_div_eq_div_mul]
          congr 1
          split <;> omega
        rw [e]
        exact h3
theorem someGo_filter (st : List Int) (m : Nat) (f : Int → Bool) (h : ∀ i : Nat, i < st.length → bitB m i = f (rd st (i : Int))) : ∀ d i : Nat, i + d = st.length → someGo st m d i = (st.drop i).filter f
  | 0, i, hi => by
    rw [List.drop_of_length_le (by omega)]
    rfl
  | d + 1, i, hi => by
    rw [drop_at st i (by omega)]
    simp only [someGo, List.filter_cons]
    rw [h i (by omega), someGo_filter st m f h d (i + 1) (by omega)]
theorem sorted_ext : ∀ (a b : List Int), a.Pairwise (· < ·) → b.Pairwise (· < ·) → (∀ v, v ∈ a ↔ v ∈ b) → a = b
  | [], [], _, _, _ => rfl
  | [], y :: b, _, _, h => by have := (h y).mpr (by simp); simp at this
  | x :: a, [], _, _, h => by have := (h x).mp (by simp); simp at this
  | x :: a, y :: b, ha, hb, h => by
    have ha2 := List.pairwise_cons.mp ha
    have hb2 := List.pairwise_cons.mp hb
    have e : x = y := by
      rcases List.mem_cons.mp ((h x).mp (by simp)) with e | e
      · exact e
      · rcases List.mem_cons.mp ((h y).mpr (by simp)) with e2 | e2
        · exact e2.symm
        · have := ha2.1 y e2
          have := hb2.1 x e
          omega
    subst e
    rw [sorted_ext a b ha2.2 hb2.2 (fun v => ?_)]
    constructor
    · intro hv
      have := ha2.1 v hv
      rcases List.mem_cons.mp ((h v).mp (by simp [hv])) with e | e
      · omega
      · exact e
    · intro hv
      have := hb2.1 v hv
      rcases List.mem_cons.mp ((h v).mpr (by simp [hv])) with e | e
      · omega
      · exact e
theorem some_mask (st s : List Int) (hst : st.Pairwise (· < ·)) (hs : s.Pairwise (· < ·)) (h : ∀ v ∈ s, v ∈ st) : ∃ m, m < 2 ^ st.length ∧ someOf st m = s := by
  obtain ⟨m, h1, h2⟩ := mask_of st.length (fun i => decide (rd st (i : Int) ∈ s))
  refine ⟨m, h1, ?_⟩
  unfold someOf
  rw [someGo_filter st m (fun v => decide (v ∈ s)) h2 st.length 0 (by omega), List.drop_zero]
  refine sorted_ext _ _ (List.Pairwise.filter _ hst) hs (fun v => ?_)
  rw [List.mem_filter, decide_eq_true_eq]
  exact ⟨fun e => e.2, fun e => ⟨h v e, e⟩⟩
theorem rz_pw {l : List Int} {lo hi : Int} (h : rz l lo hi) : l.Pairwise (· < ·) := pw_of_rd l h.2

/- The program's RangeOf, plainly. -/
theorem implRangeOf_is (k : Nat) (cs : List S34) (fc st : List Int) (x y a b : Int) (hc : cs.length ≤ 1048576) (hb : fc.length ≤ 1048576) (hs : st.length ≤ 1048576) (hk : cs.length + fc.length + st.length + 3 < k) : impl_RangeOf.f k cs fc st x y a b = some (rangeP cs fc st x y a b) := by
  unfold impl_RangeOf.f rangeP
  rw [implHead_is k cs fc st x y hc hb hs (by omega), bind_some_, within_is, bind_some_, within_is, bind_some_, w64 ((cs.length : Int) - 1) (by omega) (by omega), w64 ((fc.length : Int) - 1) (by omega) (by omega)]
  by_cases h1 : hdOk cs fc st x y = true
  · by_cases h2 : (0 ≤ a ∧ a ≤ (cs.length : Int) - 1)
    · by_cases h3 : (0 ≤ b ∧ b ≤ (fc.length : Int) - 1)
      · obtain ⟨a, rfl⟩ : ∃ n : Nat, a = n := ⟨a.toNat, by omega⟩
        obtain ⟨b, rfl⟩ : ∃ n : Nat, b = n := ⟨b.toNat, by omega⟩
        rw [if_pos h1, if_pos (decide_eq_true h2), if_pos (decide_eq_true h3), if_pos ⟨h1, h2, h3⟩, implReach_is k cs fc st x y a b 0 (by omega) (by omega) (by omega) (by omega), bind_some_]
        rfl
      · simp [h1, h2, h3]
    · simp [h1, h2]
  · simp [h1]

/- The stints of a cutter, as the program reckons them. -/
theorem implStints_l1 (cs : List S34) (fc st : List Int) (x y a b t : Int) (acc : List (List Int)) (hs : st.length ≤ 1048576) : ∀ (d k i : Nat) (c : Int), i + d = st.length → impl_Head_needs.l1 (k + d + 1) a acc b t c st st.length i cs fc st x y = (if nextOf st b t d i c < 0 then some ([], false) else (if acc.length < 5864062014805 then impl_Head_needs.l0 k a (acc ++ [[b, t]]) (nextOf st b t d i c) cs fc st x y else none)) := by
  intro d
  induction d with
  | zero =>
    intro k i c hi
    simp only [impl_Head_needs.l1, nextOf]
    rw [if_neg (by omega)]
    rfl
  | succ d ih =>
    intro k i c hi
    have hz := fun c => ih k (i + 1) c (by omega)
    obtain ⟨q, hq⟩ : ∃ q, q = k + d + 1 := ⟨_, rfl⟩
    rw [← hq] at hz
    have e : nextOf st b t (d + 1) i c = nextOf st b t d (i + 1) (if rd st (i : Int) > b then (if rd st (i : Int) ≤ t then rd st (i : Int) else c) else c) := rfl
    rw [show k + (d + 1) + 1 = q + 1 by omega, e]
    simp only [impl_Head_needs.l1]
    rw [if_pos (by omega), if_pos (by omega), if_pos (by omega), w64s i (by omega), hz, hz]
    by_cases h1 : rd st (i : Int) > b
    · by_cases h2 : rd st (i : Int) ≤ t
      · rw [if_pos h1, if_pos h2, if_pos h1, if_pos h2]
      · rw [if_pos h1, if_neg h2, if_pos h1, if_neg h2]
    · rw [if_neg h1, if_neg h1]
theorem implStints_l0 (cs : List S34) (fc st : List Int) (x y : Int) (hb : fc.length ≤ 1048576) (hs : st.length ≤ 1048576) (a : Nat) (ha : a < cs.length) : ∀ (d k b : Nat) (acc : List (List Int)), b ≤ fc.length → fc.length + 1 ≤ b + d → acc.length ≤ b → fc.length + st.length + 5 + d * (st.length + 2) ≤ k → impl_Head_needs.l0 k a acc b cs fc st x y = some (stintsGo cs fc st a d b acc) := by
  intro d
  induction d with
  | zero => intro k b acc h1 h2 h3 h4; omega
  | succ d ih =>
    intro k b acc h1 h2 h3 h4
    have h5 : (d + 1) * (st.length + 2) = d * (st.length + 2) + st.length + 2 := by rw [Nat.succ_mul]; omega
    obtain ⟨k, rfl⟩ : ∃ m, k = m + st.length + 1 + 1 := ⟨k - st.length - 2, by omega⟩
    have hr := reachOf_in cs fc a b 0 h1
    have hl1 := implStints_l1 cs fc st x y a b ((reachOf cs fc a b 0 : Nat) : Int) acc hs st.length k 0 (-1) (by omega)
    simp only [impl_Head_needs.l0, stintsGo]
    rw [implReach_is _ cs fc st x y a b 0 ha (by omega) h1 (by omega), bind_some_]
    by_cases hc : ((reachOf cs fc a b 0 : Nat) : Int) = (fc.length : Int)
    · rw [if_pos hc, if_pos hc]
    · rw [if_neg hc, if_neg hc]
      refine hl1.trans ?_
      rcases nextOf_in st b ((reachOf cs fc a b 0 : Nat) : Int) st.length 0 (-1) with hn | ⟨hn1, hn2⟩
      · rw [if_pos (by omega), if_pos (by omega)]
      · rw [if_neg (by omega), if_pos (by omega), if_neg (by omega)]
        obtain ⟨n, hn⟩ : ∃ n : Nat, nextOf st b ((reachOf cs fc a b 0 : Nat) : Int) st.length 0 (-1) = n := ⟨(nextOf st b ((reachOf cs fc a b 0 : Nat) : Int) st.length 0 (-1)).toNat, by omega⟩
        rw [hn] at hn1 hn2 ⊢
        rw [Int.toNat_natCast]
        exact ih k n _ (by omega) (by omega) (by simp; omega) (by omega)
theorem implStints_is (k : Nat) (cs : List S34) (fc st : List Int) (x y : Int) (hb : fc.length ≤ 1048576) (hs : st.length ≤ 1048576) (a : Nat) (ha : a < cs.length) (hk : fc.length + st.length + 5 + (fc.length + 1) * (st.length + 2) ≤ k) : impl_Head_needs.f k cs fc st x y a = some (stints cs fc st a) := by
  unfold impl_Head_needs.f stints
  exact implStints_l0 cs fc st x y hb hs a ha (fc.length + 1) k 0 [] (by omega) (by omega) (by simp) (by omega)

/- The plan for stops is a plan, and it costs no more than a plan with those stops that is enough. -/
def sumN : Nat → (Nat → Nat) → Nat
  | 0, _ => 0
  | n + 1, f => sumN n f + f n
theorem sumN_add (f g : Nat → Nat) : ∀ n : Nat, sumN n (fun c => f c + g c) = sumN n f + sumN n g
  | 0 => rfl
  | n + 1 => by simp only [sumN]; rw [sumN_add f g n]; omega
theorem sumN_le (f g : Nat → Nat) : ∀ n : Nat, (∀ c, c < n → f c ≤ g c) → sumN n f ≤ sumN n g
  | 0, _ => Nat.le_refl _
  | n + 1, h => by
    have h1 := sumN_le f g n (fun c hc => h c (by omega))
    have h2 := h n (by omega)
    simp only [sumN]
    omega
theorem sumN_eq (f g : Nat → Nat) (n : Nat) (h : ∀ c, c < n → f c = g c) : sumN n f = sumN n g :=
  Nat.le_antisymm (sumN_le f g n (fun c hc => Nat.le_of_eq (h c hc))) (sumN_le g f n (fun c hc => Nat.le_of_eq (h c hc).symm))
theorem sumN_zero : ∀ n : Nat, sumN n (fun _ => 0) = 0
  | 0 => rfl
  | n + 1 => by simp only [sumN]; rw [sumN_zero n]
theorem sumN_one (v : Int) : ∀ n : Nat, 0 ≤ v → sumN n (fun c => if (c : Int) = v then 1 else 0) = if v < (n : Int) then 1 else 0
  | 0, h => by rw [if_neg (by omega)]; rfl
  | n + 1, h => by
    simp only [sumN]
    rw [sumN_one v n h]
    by_cases a : v < (n : Int)
    · rw [if_pos a, if_neg (by omega), if_pos (by omega)]
    · by_cases b : (n : Int) = v
      · rw [if_neg a, if_pos b, if_pos (by omega)]
      · rw [if_neg a, if_neg b, if_neg (by omega)]
theorem len_sumN (n : Nat) : ∀ l : List Int, l.Pairwise (· < ·) → (∀ v ∈ l, 0 ≤ v ∧ v < (n : Int)) → l.length = sumN n (fun c => if (c : Int) ∈ l then 1 else 0)
  | [], _, _ => by
    rw [sumN_eq _ (fun _ => 0) n (fun c _ => by simp), sumN_zero]
    rfl
  | v :: l, hp, h => by
    have hp2 := List.pairwise_cons.mp hp
    have hv := h v (by simp)
    rw [sumN_eq _ (fun c => (if (c : Int) = v then 1 else 0) + (if (c : Int) ∈ l then 1 else 0)) n (fun c hc => ?_), sumN_add, sumN_one v n hv.1, if_pos hv.2, ← len_sumN n l hp2.2 (fun z hz => h z (by simp [hz])), List.length_cons]
    · omega
    · by_cases a : (c : Int) = v
      · have b : ¬ (c : Int) ∈ l := fun hb => by have := hp2.1 _ hb; omega
        rw [if_pos (by simp [a]), if_pos a, if_neg b]
      · rw [if_neg a]
        by_cases b : (c : Int) ∈ l
        · rw [if_pos (by simp [b]), if_pos b]
        · rw [if_neg (by simp [a, b]), if_neg b]
structure PlanF (n : Nat) (st : List Int) (p : List S49) : Prop where
  up : p.Pairwise (fun a b => a.f0 < b.f0)
  at_ : ∀ t ∈ p, t.f0 ∈ st
  ne : ∀ t ∈ p, t.f1.length ≠ 0
  ch : ∀ t ∈ p, t.f1.Pairwise (· < ·) ∧ ∀ v ∈ t.f1, 0 ≤ v ∧ v < (n : Int)
theorem pickGo_pw (cs : List S34) (fc : List Int) (p : List S49) (r nx : Nat) : ∀ d c : Nat, (pickGo cs fc p r nx d c).Pairwise (· < ·)
  | 0, _ => List.Pairwise.nil
  | d + 1, c => by
    have h1 := pickGo_pw cs fc p r nx d (c + 1)
    have h2 := (pickGo_in cs fc p r nx d (c + 1)).2
    simp only [pickGo]
    split
    · refine List.pairwise_cons.mpr ⟨fun v hv => ?_, h1⟩
      have := h2 v hv
      omega
    · exact h1
theorem forL_pick {cs : List S34} {fc : List Int} (Q : S49 → Prop) (hQ : ∀ p r nx, (pick cs fc p r nx).length ≠ 0 → Q ⟨(r : Int), pick cs fc p r nx⟩) : ∀ (todo : List Nat) (p : List S49), (∀ t ∈ p, Q t) → ∀ t ∈ forL cs fc todo p, Q t
  | [], p, h => h
  | r :: t, p, h => by
    refine forL_pick Q hQ t _ (fun z hz => ?_)
    unfold forStep at hz
    split at hz
    · rename_i hl
      rcases List.mem_append.mp hz with e | e
      · exact h z e
      · rw [List.mem_singleton.mp e]
        exact hQ p r _ (by omega)
    · exact h z hz
theorem forP_F {cs : List S34} {fc st : List Int} (s : List Int) (hs : s.Pairwise (· < ·)) (hN : ∀ v ∈ s, 0 ≤ v ∧ v < (fc.length : Int)) (hst : ∀ v ∈ s, v ∈ st) : PlanF cs.length st (forP cs fc s) := by
  have hR : (s.map Int.toNat).Pairwise (· < ·) := by
    rw [List.pairwise_map]
    refine List.Pairwise.imp_of_mem ?_ hs
    intro a b ha hb hab
    have := hN a ha
    have := hN b hb
    omega
  obtain ⟨h1, h2⟩ := forL_in (cs := cs) (fc := fc) (s.map Int.toNat) [] hR (by simp) List.Pairwise.nil
  rw [forP_L]
  refine ⟨h1, ?_, forL_pick (fun t => t.f1.length ≠ 0) (fun p r nx h => h) _ [] (by simp), forL_pick (fun t => t.f1.Pairwise (· < ·) ∧ ∀ v ∈ t.f1, 0 ≤ v ∧ v < (cs.length : Int)) (fun p r nx _ => ⟨pickGo_pw cs fc p r nx cs.length 0, (pickP_in cs fc p r nx).2⟩) _ [] (by simp)⟩
  intro t ht
  rcases h2 t ht with h | ⟨q, hq, e⟩
  · simp at h
  · obtain ⟨v, hv, rfl⟩ := List.mem_map.mp hq
    have := hN v hv
    rw [e, show ((v.toNat : Nat) : Int) = v by omega]
    exact hst v hv
theorem f1_short {n : Nat} {st : List Int} {p : List S49} (h : PlanF n st p) : ∀ t ∈ p, t.f1.length ≤ n := by
  intro t ht
  have := h.ch t ht
  rw [len_sumN n t.f1 this.1 this.2]
  refine Nat.le_trans (sumN_le _ (fun _ => 1) n (fun c _ => by split <;> omega)) ?_
  have : ∀ m : Nat, sumN m (fun _ => 1) = m := fun m => by induction m with | zero => rfl | succ m ih => simp only [sumN]; omega
  rw [this]
  exact Nat.le_refl _
theorem cost_sum (x y : Int) {n : Nat} {st : List Int} : ∀ p : List S49, PlanF n st p → (p.map fun t => x + y * (t.f1.length : Int)).sum = x * (p.length : Int) + y * ((sumN n (fun c => cntC c p) : Nat) : Int)
  | [], _ => by
    have : sumN n (fun c => cntC c ([] : List S49)) = 0 := sumN_zero n
    rw [this]
    simp
  | t :: p, h => by
    have h2 : PlanF n st p := ⟨(List.pairwise_cons.mp h.up).2, fun z hz => h.at_ z (by simp [hz]), fun z hz => h.ne z (by simp [hz]), fun z hz => h.ch z (by simp [hz])⟩
    have h3 := h.ch t (by simp)
    have e1 : sumN n (fun c => cntC c (t :: p)) = t.f1.length + sumN n (fun c => cntC c p) := by
      rw [len_sumN n t.f1 h3.1 h3.2]
      exact sumN_add _ _ n
    rw [List.map_cons, List.sum_cons, cost_sum x y p h2, e1, List.length_cons]
    push_cast
    rw [Int.mul_add, Int.mul_add]
    omega
theorem cost_le {x y : Int} (hx : 0 ≤ x ∧ x ≤ 10000) (hy : 0 ≤ y ∧ y ≤ 10000) {n : Nat} (hn : n ≤ 5) {st : List Int} {g p : List S49} (hg : PlanF n st g) (hp : PlanF n st p) (hl : p.length ≤ 1000) (hle : g.length ≤ p.length) (hc : ∀ c, c < n → cntC c g ≤ cntC c p) : costGo x y g 0 ≤ costGo x y p 0 := by
  obtain ⟨e1, _, _⟩ := costGo_in x y hx hy g 0 (fun t ht => by have := f1_short hg t ht; omega) (by omega) (by omega) (by omega)
  obtain ⟨e2, _, _⟩ := costGo_in x y hx hy p 0 (fun t ht => by have := f1_short hp t ht; omega) (by omega) (by omega) (by omega)
  rw [e1, e2, cost_sum x y g hg, cost_sum x y p hp]
  have h1 : x * (g.length : Int) ≤ x * (p.length : Int) := Int.mul_le_mul_of_nonneg_left (by omega) hx.1
  have h2 := sumN_le (fun c => cntC c g) (fun c => cntC c p) n hc
  have h3 : y * ((sumN n (fun c => cntC c g) : Nat) : Int) ≤ y * ((sumN n (fun c => cntC c p) : Nat) : Int) := Int.mul_le_mul_of_nonneg_left (by omega) hy.1
  omega

/- A valid head with a plan of it; what is told of them. -/
/- A number is in a list, as another law asks it. -/
theorem r8Has_loop (l : List Int) (n : Int) (hb : l.length ≤ 9223372036854775806) : ∀ (d k i : Nat), i + d = l.length → d < k → laws_r8Has.l0 k l n i = some (decide (n ∈ l.drop i)) := by
  intro d
  induction d with
  | zero =>
    intro k i hi hk
    obtain ⟨k, rfl⟩ : ∃ m, k = m + 1 := ⟨k - 1, by omega⟩
    simp only [laws_r8Has.l0]
    rw [if_neg (by omega), List.drop_of_length_le (by omega)]
    simp
  | succ d ih =>
    intro k i hi hk
    obtain ⟨k, rfl⟩ : ∃ m, k = m + 1 := ⟨k - 1, by omega⟩
    simp only [laws_r8Has.l0]
    rw [if_pos (by omega), if_pos (by omega), w64s i (by omega), ih k (i + 1) (by omega) (by omega), drop_at l i (by omega)]
    by_cases h : rd l i = n
    · rw [if_pos h]; simp [h]
    · rw [if_neg h]
      have h2 : ¬ n = rd l i := fun e => h e.symm
      simp [h2]
theorem r8Has_is (k : Nat) (l : List Int) (n : Int) (hb : l.length ≤ 9223372036854775806) (hk : l.length < k) : laws_r8Has.f k l n = some (decide (n ∈ l)) := by
  unfold laws_r8Has.f
  have := r8Has_loop l n hb l.length k 0 (by omega) hk
  simpa using this


/- How often a plan changes a cutter, as the laws count; the plan for the stops of a drawn plan. -/
theorem rings_ok {cs : List S34} {fc st : List Int} (hz : rz st 0 fc.length) {p : List S49} (h : PlanF cs.length st p) : (ringsP p).Pairwise (· < ·) ∧ (∀ v ∈ ringsP p, 0 ≤ v ∧ v < (fc.length : Int)) ∧ ∀ v ∈ ringsP p, v ∈ st := by
  have h3 : ∀ v ∈ ringsP p, v ∈ st := by
    intro v hv
    obtain ⟨t, ht, rfl⟩ := List.mem_map.mp hv
    exact h.at_ t ht
  refine ⟨?_, ?_, h3⟩
  · unfold ringsP
    rw [List.pairwise_map]
    exact h.up
  · intro v hv
    obtain ⟨j, hj, e⟩ := List.getElem_of_mem (h3 v hv)
    have := hz.1 j hj
    rw [rd_at st j hj, e] at this
    exact this
theorem nodup_len : ∀ (l : List Int) (lo : Int) (n : Nat), l.Pairwise (· < ·) → (∀ v ∈ l, lo ≤ v ∧ v < lo + (n : Int)) → l.length ≤ n
  | [], _, _, _, _ => Nat.zero_le _
  | v :: l, lo, n, hp, h => by
    have hp2 := List.pairwise_cons.mp hp
    have hv := h v (by simp)
    have := nodup_len l (v + 1) ((lo + (n : Int) - v - 1).toNat) hp2.2 (fun z hz => by
      have := hp2.1 z hz
      have := h z (by simp [hz])
      omega)
    rw [List.length_cons]
    omega
theorem pl_small {cs : List S34} {fc st : List Int} {x y : Int} (hh : hdOk cs fc st x y = true) (hz : rz st 0 fc.length) {p : List S49} (h : PlanF cs.length st p) : p.length ≤ 60 := by
  have hin := hdOk_in hh
  obtain ⟨h1, h2, _⟩ := rings_ok hz h
  have := nodup_len (ringsP p) 0 fc.length h1 (fun v hv => by have := h2 v hv; omega)
  rw [ringsP_len] at this
  omega

/- The stints of a cutter are the changes of the plan that changes it as late as may be. -/
def gF (T : Nat → Nat) (N : Nat) : List Nat → Nat → Option Nat
  | [], b => if T b < N then none else some 0
  | r :: t, b => if T b < r then none else if T b < nxt N t then (gF T N t r).map (· + 1) else gF T N t b
theorem segS_add (s : Nat → Int) (b e : Nat) : ∀ d : Nat, segS s b (e + d) = segS s b e + segS s (b + e) d
  | 0 => by simp [segS]
  | d + 1 => by
    rw [show e + (d + 1) = (e + d) + 1 by omega]
    simp only [segS]
    rw [segS_add s b e d, show b + e + d = b + (e + d) by omega]
    omega
theorem far_greedy (s : Nat → Int) (L : Int) (N : Nat) (T : Nat → Nat) (hT : ∀ b nx, b < nx → nx ≤ N → (T b < nx ↔ segS s b (nx - b) > L)) : ∀ (todo : List Nat) (b : Nat), todo.Pairwise (· < ·) → (∀ q ∈ todo, b < q ∧ q < N) → b < N →
    ((segS s b (nxt N todo - b) ≤ L ∧ okB s L N todo (grB s L N todo (segS s b (nxt N todo - b))) (segS s b (nxt N todo - b))) ↔ (gF T N todo b).isSome = true) ∧ ∀ n, gF T N todo b = some n → cntB (grB s L N todo (segS s b (nxt N todo - b))) = n
  | [], b, _, _, hb => by
    have h := hT b N hb (Nat.le_refl _)
    simp only [nxt, gF, grB, okB, and_true, cntB]
    by_cases c : T b < N
    · rw [if_pos c]
      have := h.mp c
      refine ⟨⟨fun e => by omega, fun e => by cases e⟩, fun n e => by cases e⟩
    · rw [if_neg c]
      refine ⟨⟨fun _ => rfl, fun _ => by omega⟩, fun n e => ?_⟩
      simp only [Option.some.injEq] at e
      exact e
  | r :: t, b, hp, hN, hb => by
    have hp2 := List.pairwise_cons.mp hp
    have hr := hN r (by simp)
    have hnx : r < nxt N t ∧ nxt N t ≤ N := by
      cases t with
      | nil => exact ⟨hr.2, Nat.le_refl _⟩
      | cons q t => exact ⟨hp2.1 q (by simp), Nat.le_of_lt (hN q (by simp)).2⟩
    have h1 := hT b r hr.1 (by omega)
    have h2 := hT b (nxt N t) (by omega) hnx.2
    have hsum : segS s b (r - b) + segS s r (nxt N t - r) = segS s b (nxt N t - b) := by
      have := segS_add s b (r - b) (nxt N t - r)
      rw [show b + (r - b) = r by omega, show r - b + (nxt N t - r) = nxt N t - b by omega] at this
      omega
    simp only [gF]
    rw [show nxt N (r :: t) = r from rfl]
    by_cases c1 : T b < r
    · rw [if_pos c1]
      have := h1.mp c1
      exact ⟨⟨fun e => by omega, fun e => by cases e⟩, fun n e => by cases e⟩
    · rw [if_neg c1]
      have hle : segS s b (r - b) ≤ L := by omega
      simp only [grB, okB, cntB]
      rw [hsum]
      by_cases c2 : T b < nxt N t
      · obtain ⟨i1, i2⟩ := far_greedy s L N T hT t r hp2.2 (fun q hq => ⟨hp2.1 q hq, (hN q (by simp [hq])).2⟩) hr.2
        rw [if_pos c2, decide_eq_true (h2.mp c2), if_pos rfl, if_pos rfl, Int.zero_add]
        refine ⟨?_, fun n e => ?_⟩
        · rw [Option.isSome_map, ← i1]
          exact ⟨fun e => e.2, fun e => ⟨hle, e⟩⟩
        · cases hg : gF T N t r with
          | none => rw [hg] at e; cases e
          | some k =>
            rw [hg] at e
            simp only [Option.map_some, Option.some.injEq] at e
            rw [i2 k hg]
            omega
      · have hle2 : ¬ segS s b (nxt N t - b) > L := fun e => c2 (h2.mpr e)
        obtain ⟨i1, i2⟩ := far_greedy s L N T hT t b hp2.2 (fun q hq => hN q (by simp [hq]) |>.imp id id) hb
        rw [if_neg c2, decide_eq_false hle2, if_neg (by simp), if_neg (by simp), hsum]
        refine ⟨?_, fun n e => ?_⟩
        · rw [← i1]
          exact ⟨fun e => e.2, fun e => ⟨hle, e⟩⟩
        · rw [i2 n e]
          omega

/- A cutter's stints are as many as its changes in the plan for all safe rings. -/
theorem all_link (ψ : Nat → Bool) (s : Nat → Int) (L : Int) (N : Nat) (hs : ∀ n, n < N → 0 ≤ s n) (r : Nat) (t : List Nat) (hp : (r :: t).Pairwise (· < ·)) (hN : ∀ q ∈ r :: t, q < N) (hψ : ∀ n, ψ n = true → n ∈ r :: t) : allOk ψ s L N ↔ ((0 < r → segS s 0 r ≤ L) ∧ okB s L N (r :: t) ((r :: t).map ψ) (segS s 0 r)) := by
  have hno : ∀ j, j < r → ψ j = false := fun j hj => by
    rw [Bool.eq_false_iff]
    intro hh
    rcases List.mem_cons.mp (hψ j hh) with e | e
    · omega
    · have := (List.pairwise_cons.mp hp).1 j e
      omega
  have hsup : ∀ n, r < n → ψ n = true → n ∈ t := fun n h1 h2 => by
    rcases List.mem_cons.mp (hψ n h2) with e | e
    · omega
    · exact e
  have hl := ok_link ψ s L N hs t r hp hN hsup
  have hrN : r < N := hN r (by simp)
  cases r with
  | zero =>
    simp only [wIn] at hl
    rw [show segS s 0 0 = 0 from rfl, ← hl]
    constructor
    · intro h
      exact ⟨fun e => by omega, fun n _ hn => h n hn⟩
    · intro h n hn
      exact h.2 n (by omega) hn
  | succ r =>
    have hw := wIn_seg ψ s 0 r (fun j h1 h2 => hno j (by omega))
    rw [Nat.zero_add, show wOf ψ s 0 = 0 from rfl, Int.zero_add] at hw
    rw [hw] at hl
    have hpart := part_ok ψ s L N hs 0 (r + 1) (by omega) (by omega) (fun j h1 h2 => hno j h2)
    rw [show wOf ψ s 0 = 0 from rfl, Int.zero_add, Nat.sub_zero] at hpart
    rw [← hl, ← hpart]
    constructor
    · intro h
      exact ⟨fun _ n _ hn => h n (by omega), fun n _ hn => h n hn⟩
    · intro h n hn
      by_cases c : n < r + 1
      · exact h.1 (by omega) n (by omega) c
      · exact h.2 n (by omega) hn
theorem late_far (s : Nat → Int) (L : Int) (N : Nat) (hs : ∀ n, n < N → 0 ≤ s n) (T : Nat → Nat) (hT : ∀ b nx, b < nx → nx ≤ N → (T b < nx ↔ segS s b (nx - b) > L)) (hN0 : 0 < N) (R : List Nat) (hp : R.Pairwise (· < ·)) (hN : ∀ q ∈ R, q < N) (ψ : Nat → Bool) (hψ : ∀ n, ψ n = true → n ∈ R) (hg : R.map ψ = grB s L N R (segS s 0 (nxt N R))) :
    ∃ pre todo : List Nat, R = pre ++ todo ∧ (∀ q ∈ pre, q = 0) ∧ (∀ q ∈ todo, 0 < q ∧ q < N) ∧ (allOk ψ s L N ↔ (gF T N todo 0).isSome = true) ∧ (allOk ψ s L N → ∀ n, gF T N todo 0 = some n → cntB (R.map ψ) = n) := by
  cases R with
  | nil =>
    obtain ⟨f1, f2⟩ := far_greedy s L N T hT [] 0 List.Pairwise.nil (by simp) hN0
    have hno : ∀ j, ψ j = false := fun j => by
      rw [Bool.eq_false_iff]
      intro hh
      have := hψ j hh
      simp at this
    have hpart := part_ok ψ s L N hs 0 N hN0 (Nat.le_refl _) (fun j _ _ => hno j)
    rw [show wOf ψ s 0 = 0 from rfl, Int.zero_add] at hpart
    refine ⟨[], [], rfl, by simp, by simp, ?_, fun _ n e => f2 n e⟩
    rw [← f1]
    simp only [okB, grB, and_true, nxt]
    rw [← hpart]
    exact ⟨fun h n _ hn => h n hn, fun h n hn => h n (by omega) hn⟩
  | cons r t =>
    have hal := all_link ψ s L N hs r t hp hN hψ
    have hp2 := List.pairwise_cons.mp hp
    rw [show nxt N (r :: t) = r from rfl] at hg
    rw [hg] at hal ⊢
    by_cases c : 0 < r
    · obtain ⟨f1, f2⟩ := far_greedy s L N T hT (r :: t) 0 hp (fun q hq => ⟨by
        rcases List.mem_cons.mp hq with e | e
        · omega
        · have := hp2.1 q e; omega, hN q hq⟩) hN0
      rw [show nxt N (r :: t) = r from rfl, Nat.sub_zero] at f1 f2
      refine ⟨[], r :: t, rfl, by simp, fun q hq => ⟨by
        rcases List.mem_cons.mp hq with e | e
        · omega
        · have := hp2.1 q e; omega, hN q hq⟩, ?_, fun _ n e => f2 n e⟩
      rw [hal, ← f1]
      exact ⟨fun h => ⟨h.1 c, h.2⟩, fun h => ⟨fun _ => h.1, h.2⟩⟩
    · have er : r = 0 := by omega
      subst er
      obtain ⟨f1, f2⟩ := far_greedy s L N T hT t 0 hp2.2 (fun q hq => ⟨hp2.1 q hq, hN q (by simp [hq])⟩) hN0
      have e0 : segS s 0 0 = 0 := rfl
      simp only [grB, okB, cntB, e0, Int.zero_add] at hal ⊢
      refine ⟨[0], t, rfl, by simp, fun q hq => ⟨hp2.1 q hq, hN q (by simp [hq])⟩, ?_, ?_⟩
      · rw [hal, ← f1]
        by_cases q : segS s 0 (nxt N t - 0) > L
        · rw [decide_eq_true q, if_pos rfl, Int.zero_add]
          exact ⟨fun h => by have := h.2.1; omega, fun h => by have := h.1; omega⟩
        · rw [decide_eq_false q, if_neg (by simp), Int.zero_add]
          exact ⟨fun h => h.2, fun h => ⟨fun e => by omega, h⟩⟩
      · intro ha n e
        rw [hal] at ha
        by_cases q : segS s 0 (nxt N t - 0) > L
        · rw [decide_eq_true q, if_pos rfl, Int.zero_add] at ha
          have := ha.2.1
          omega
        · rw [decide_eq_false q, if_neg (by simp), if_neg (by simp), Int.zero_add, f2 n e]
          omega

/- The stints of a cutter, told over the list of safe rings. -/
def nextL (b t : Int) : List Int → Int → Int
  | [], c => c
  | v :: l, c => nextL b t l (if v > b then if v ≤ t then v else c else c)
theorem nextOf_L (st : List Int) (b t : Int) : ∀ (d i : Nat) (c : Int), i + d = st.length → nextOf st b t d i c = nextL b t (st.drop i) c
  | 0, i, c, h => by
    rw [List.drop_of_length_le (by omega)]
    rfl
  | d + 1, i, c, h => by
    rw [drop_at st i (by omega)]
    simp only [nextOf, nextL]
    exact nextOf_L st b t d (i + 1) _ (by omega)
theorem nextL_app (b t : Int) (m : List Int) : ∀ (l : List Int) (c : Int), nextL b t (l ++ m) c = nextL b t m (nextL b t l c)
  | [], c => rfl
  | v :: l, c => by
    simp only [List.cons_append, nextL]
    exact nextL_app b t m l _
theorem nextL_out (b t : Int) : ∀ (l : List Int) (c : Int), (∀ v ∈ l, v ≤ b ∨ t < v) → nextL b t l c = c
  | [], c, _ => rfl
  | v :: l, c, h => by
    have h1 := h v (by simp)
    simp only [nextL]
    have e : (if v > b then if v ≤ t then v else c else c) = c := by
      rcases h1 with a | a
      · rw [if_neg (by omega)]
      · by_cases q : v > b
        · rw [if_pos q, if_neg (by omega)]
        · rw [if_neg q]
    rw [e]
    exact nextL_out b t l c (fun z hz => h z (by simp [hz]))
theorem stints_far (cs : List S34) (fc st : List Int) (a : Nat) (hst : st.Pairwise (· < ·)) : ∀ (todo : List Nat) (pre : List Int) (b d : Nat) (acc : List (List Int)), st = pre ++ todo.map (fun (n : Nat) => (n : Int)) → (∀ q ∈ todo, b < q ∧ q < fc.length) → todo.length < d → b < fc.length →
    ((∀ v ∈ pre, v ≤ (b : Int)) ∨ nxt fc.length todo ≤ reachOf cs fc a b 0) →
    (stintsGo cs fc st a d b acc).2 = (gF (fun b => reachOf cs fc a b 0) fc.length todo b).isSome ∧ ∀ n, gF (fun b => reachOf cs fc a b 0) fc.length todo b = some n → (stintsGo cs fc st a d b acc).1.length = acc.length + n
  | [], pre, b, d, acc, he, hN, hd, hb, hpre => by
    obtain ⟨d, rfl⟩ : ∃ m, d = m + 1 := ⟨d - 1, by simp at hd; omega⟩
    have hT := reachOf_in cs fc a b 0 (by omega)
    simp only [stintsGo, gF]
    by_cases c : reachOf cs fc a b 0 < fc.length
    · rw [if_pos c, if_neg (by omega)]
      have hp : ∀ v ∈ pre, v ≤ (b : Int) := by
        rcases hpre with h | h
        · exact h
        · simp only [nxt] at h; omega
      rw [nextOf_L st _ _ st.length 0 _ (by omega), List.drop_zero, he, List.map_nil, List.append_nil, nextL_out _ _ _ _ (fun v hv => Or.inl (hp v hv)), if_pos (by omega)]
      exact ⟨rfl, fun n e => by cases e⟩
    · rw [if_neg c, if_pos (by omega)]
      refine ⟨rfl, fun n e => ?_⟩
      simp only [Option.some.injEq] at e
      dsimp only
      omega
  | r :: t, pre, b, d, acc, he, hN, hd, hb, hpre => by
    have hr := hN r (by simp)
    have hT := reachOf_in cs fc a b 0 (by omega)
    have hpw := hst
    rw [he, List.pairwise_append] at hpw
    obtain ⟨_, hp2, hp3⟩ := hpw
    rw [List.map_cons] at hp2
    have hp4 := (List.pairwise_cons.mp hp2).1
    have hpr : ∀ v ∈ pre, v < (r : Int) := fun v hv => hp3 v hv _ (by simp)
    have hnx : nxt fc.length t ≤ fc.length := nxt_le (fun q hq => Nat.le_of_lt (hN q (by simp [hq])).2)
    have htn : ∀ q ∈ t, nxt fc.length t ≤ q := fun q hq => by
      cases t with
      | nil => simp at hq
      | cons z t =>
        rcases List.mem_cons.mp hq with e | e
        · rw [e]; exact Nat.le_refl _
        · have := (List.pairwise_cons.mp (List.pairwise_cons.mp hp2).2).1 (q : Int) (List.mem_map.mpr ⟨q, e, rfl⟩)
          dsimp only at this
          simp only [nxt]
          omega
    have he2 : st = (pre ++ [(r : Int)]) ++ t.map (fun (n : Nat) => (n : Int)) := by rw [he]; simp
    simp only [gF]
    by_cases c1 : reachOf cs fc a b 0 < r
    · obtain ⟨d, rfl⟩ : ∃ m, d = m + 1 := ⟨d - 1, by omega⟩
      have hp : ∀ v ∈ pre, v ≤ (b : Int) := by
        rcases hpre with h | h
        · exact h
        · simp only [nxt] at h; omega
      rw [if_pos c1]
      simp only [stintsGo]
      rw [if_neg (by omega), nextOf_L st _ _ st.length 0 _ (by omega), List.drop_zero, nextL_out _ _ st _ (fun v hv => ?_), if_pos (by omega)]
      · exact ⟨rfl, fun n e => by cases e⟩
      · rw [he] at hv
        rcases List.mem_append.mp hv with e | e
        · exact Or.inl (hp v e)
        · right
          rw [List.map_cons] at e
          rcases List.mem_cons.mp e with e | e
          · omega
          · have := hp4 v e
            omega
    · rw [if_neg c1]
      by_cases c2 : reachOf cs fc a b 0 < nxt fc.length t
      · obtain ⟨d, rfl⟩ : ∃ m, d = m + 1 := ⟨d - 1, by omega⟩
        have hn : nextOf st b (reachOf cs fc a b 0 : Nat) st.length 0 (-1) = (r : Int) := by
          rw [nextOf_L st _ _ st.length 0 _ (by omega), List.drop_zero, he, nextL_app, List.map_cons]
          simp only [nextL]
          rw [if_pos (by omega), if_pos (by omega)]
          refine nextL_out _ _ _ _ (fun v hv => Or.inr ?_)
          obtain ⟨q, hq, rfl⟩ := List.mem_map.mp hv
          have := htn q hq
          omega
        obtain ⟨i1, i2⟩ := stints_far cs fc st a hst t (pre ++ [(r : Int)]) r d (acc ++ [[(b : Int), ((reachOf cs fc a b 0 : Nat) : Int)]]) he2 (fun q hq => ⟨by have := hp4 (q : Int) (List.mem_map.mpr ⟨q, hq, rfl⟩); omega, (hN q (by simp [hq])).2⟩) (by simp only [List.length_cons] at hd; omega) hr.2 (Or.inl (fun v hv => by
          rcases List.mem_append.mp hv with e | e
          · have := hpr v e; omega
          · rw [List.mem_singleton.mp e]; exact Int.le_refl _))
        rw [if_pos c2]
        simp only [stintsGo]
        rw [if_neg (by omega), hn, if_neg (by omega), Int.toNat_natCast]
        refine ⟨by rw [i1, Option.isSome_map], fun n e => ?_⟩
        cases hg : gF (fun b => reachOf cs fc a b 0) fc.length t r with
        | none => rw [hg] at e; cases e
        | some k =>
          rw [hg] at e
          simp only [Option.map_some, Option.some.injEq] at e
          rw [i2 k hg, List.length_append, List.length_singleton]
          omega
      · rw [if_neg c2]
        exact stints_far cs fc st a hst t (pre ++ [(r : Int)]) b d acc he2 (fun q hq => hN q (by simp [hq])) (by simp only [List.length_cons] at hd; omega) hb (Or.inr (by omega))

/- A cutter has stints just if the plan for all safe rings does not fail it, and then as many as it has changes in that plan. -/
theorem stints_is {cs : List S34} {fc st : List Int} {x y : Int} (hh : hdOk cs fc st x y = true) (hz : rz st 0 fc.length) (c : Nat) (hc : c < cs.length) (hN0 : 0 < fc.length) :
    (allOk (chF (forP cs fc st) c) (wearStep cs fc c) (limC cs c) fc.length ↔ (stints cs fc st c).2 = true) ∧ (allOk (chF (forP cs fc st) c) (wearStep cs fc c) (limC cs c) fc.length → (stints cs fc st c).1.length = cntC c (forP cs fc st)) := by
  have hin := hdOk_in hh
  have hpw := rz_pw hz
  have hrng : ∀ v ∈ st, 0 ≤ v ∧ v < (fc.length : Int) := fun v hv => by
    obtain ⟨j, hj, e⟩ := List.getElem_of_mem hv
    have := hz.1 j hj
    rw [rd_at st j hj, e] at this
    exact this
  have hR : (st.map Int.toNat).Pairwise (· < ·) := by
    rw [List.pairwise_map]
    refine List.Pairwise.imp_of_mem ?_ hpw
    intro a b ha hb hab
    have := hrng a ha
    have := hrng b hb
    omega
  have hRN : ∀ q ∈ st.map Int.toNat, q < fc.length := by
    intro q hq
    obtain ⟨v, hv, rfl⟩ := List.mem_map.mp hq
    have := hrng v hv
    omega
  have hcast : st = (st.map Int.toNat).map (fun (n : Nat) => (n : Int)) := by
    rw [List.map_map]
    refine (List.map_id st).symm.trans (List.map_congr_left (fun v hv => ?_))
    have := hrng v hv
    show v = ((v.toNat : Nat) : Int)
    omega
  obtain ⟨hG1, hG2⟩ := forL_in (cs := cs) (fc := fc) (st.map Int.toNat) [] hR (by simp) List.Pairwise.nil
  have hrG : ∀ t ∈ forL cs fc (st.map Int.toNat) [], ∃ q ∈ st.map Int.toNat, t.f0 = (q : Int) := fun t ht => by
    rcases hG2 t ht with h | h
    · simp at h
    · exact h
  have hsup : ∀ n, chF (forL cs fc (st.map Int.toNat) []) c n = true → n ∈ st.map Int.toNat := fun n hn => by
    unfold chF chg at hn
    rw [List.any_eq_true] at hn
    obtain ⟨t, ht, h1⟩ := hn
    simp only [Bool.and_eq_true, decide_eq_true_eq] at h1
    obtain ⟨q, hq, e⟩ := hrG t ht
    have : n = q := by omega
    rw [this]
    exact hq
  have hs : ∀ n, n < fc.length → 0 ≤ wearStep cs fc c n := fun n hn => (step_in hh c n hc hn).1
  have hT : ∀ b nx, b < nx → nx ≤ fc.length → (reachOf cs fc c b 0 < nx ↔ segS (wearStep cs fc c) b (nx - b) > limC cs c) := fun b nx h1 h2 => by
    have := reachGo_lt hh c hc nx h2 (fc.length - b) b 0 (by omega) h1 (Int.le_refl _) (by omega)
    rw [Int.zero_add] at this
    exact this
  have hg : (st.map Int.toNat).map (chF (forL cs fc (st.map Int.toNat) []) c) = grB (wearStep cs fc c) (limC cs c) fc.length (st.map Int.toNat) (segS (wearStep cs fc c) 0 (nxt fc.length (st.map Int.toNat))) := by
    rw [(forL_chg hh c hc (st.map Int.toNat) [] hR hRN (by simp)).2]
    congr 1
    generalize nxt fc.length (st.map Int.toNat) = m
    cases m with
    | zero => rfl
    | succ m =>
      have := wIn_seg (chF [] c) (wearStep cs fc c) 0 m (fun j _ _ => by simp [chF, chg])
      rw [Nat.zero_add] at this
      rw [this]
      simp [wOf]
  obtain ⟨pre, todo, e1, e2, e3, e4, e5⟩ := late_far (wearStep cs fc c) (limC cs c) fc.length hs (fun b => reachOf cs fc c b 0) hT hN0 (st.map Int.toNat) hR hRN _ hsup hg
  have hlen : st.length ≤ fc.length := nodup_len st 0 fc.length hpw (fun v hv => by have := hrng v hv; omega)
  have hl2 : st.length = pre.length + todo.length := by
    have := congrArg List.length e1
    rw [List.length_map, List.length_append] at this
    exact this
  obtain ⟨f1, f2⟩ := stints_far cs fc st c hpw todo (pre.map (fun (n : Nat) => (n : Int))) 0 (fc.length + 1) [] (by rw [← List.map_append, ← e1]; exact hcast) e3 (by omega) hN0 (Or.inl (fun v hv => by
    obtain ⟨q, hq, rfl⟩ := List.mem_map.mp hv
    rw [e2 q hq]
    exact Int.le_refl _))
  rw [forP_L]
  have hst : stints cs fc st c = stintsGo cs fc st c (fc.length + 1) 0 [] := rfl
  refine ⟨?_, fun ha => ?_⟩
  · rw [e4, hst, f1]
  · have hs2 := e4.mp ha
    obtain ⟨n, hn⟩ := Option.isSome_iff_exists.mp hs2
    rw [hst, f2 n hn, cnt_bits c _ hR _ hG1 hrG, e5 ha n hn]
    simp

/- The bound on a head's cost is no more than the cost of a plan that is enough; the cheapest plan costs no more than any such. -/
theorem forP_nil (cs : List S34) (fc : List Int) : forP cs fc [] = [] := rfl
theorem stints_all {cs : List S34} {fc st : List Int} {x y : Int} (hh : hdOk cs fc st x y = true) (hz : rz st 0 fc.length) (c : Nat) (hc : c < cs.length) :
    (allOk (chF (forP cs fc st) c) (wearStep cs fc c) (limC cs c) fc.length ↔ (stints cs fc st c).2 = true) ∧ (allOk (chF (forP cs fc st) c) (wearStep cs fc c) (limC cs c) fc.length → (stints cs fc st c).1.length = cntC c (forP cs fc st)) := by
  by_cases h0 : 0 < fc.length
  · exact stints_is hh hz c hc h0
  · have hst : st = [] := by
      cases st with
      | nil => rfl
      | cons v st =>
        have := hz.1 0 (by simp)
        omega
    have hr := reachOf_in cs fc c 0 0 (by omega)
    have e : stints cs fc st c = ([], true) := by
      unfold stints
      rw [show fc.length + 1 = 0 + 1 by omega]
      simp only [stintsGo]
      rw [if_pos (by omega)]
    rw [e, hst, forP_nil]
    refine ⟨⟨fun _ => rfl, fun _ n hn => by omega⟩, fun _ => rfl⟩
theorem bnd_all (cs : List S34) (fc st : List Int) (h : ∀ c, c < cs.length → (stints cs fc st c).2 = true) : ∀ (d i : Nat) (m : Int), i + d = cs.length →
    ∃ M, bndGo cs fc st d i ((sumN i (fun c => (stints cs fc st c).1.length) : Nat) : Int) m = some (((sumN cs.length (fun c => (stints cs fc st c).1.length) : Nat) : Int), M) ∧ (M = m ∨ ∃ c, c < cs.length ∧ M = ((stints cs fc st c).1.length : Int))
  | 0, i, m, hi => ⟨m, by rw [show i = cs.length by omega]; rfl, Or.inl rfl⟩
  | d + 1, i, m, hi => by
    obtain ⟨M, h1, h2⟩ := bnd_all cs fc st h d (i + 1) (if m < ((stints cs fc st i).1.length : Int) then ((stints cs fc st i).1.length : Int) else m) (by omega)
    refine ⟨M, ?_, ?_⟩
    · simp only [bndGo]
      rw [if_pos (h i (by omega))]
      simp only [sumN] at h1
      rw [Int.natCast_add] at h1
      exact h1
    · rcases h2 with e | e
      · split at e
        · exact Or.inr ⟨i, by omega, e⟩
        · exact Or.inl e
      · exact Or.inr e
theorem cntC_le (c : Nat) : ∀ p : List S49, cntC c p ≤ p.length
  | [] => Nat.le_refl _
  | t :: p => by
    have := cntC_le c p
    simp only [cntC, List.length_cons]
    split <;> omega
theorem bound_le {cs : List S34} {fc st : List Int} {x y : Int} (hh : hdOk cs fc st x y = true) (hz : rz st 0 fc.length) {g : List S49} (hg : PlanF cs.length st g) (hf : (failP cs fc g).isNone = true) : (boundP cs fc st x y).1 ≤ costGo x y g 0 := by
  have hin := hdOk_in hh
  have hpw := rz_pw hz
  have hrng : ∀ v ∈ st, 0 ≤ v ∧ v < (fc.length : Int) := fun v hv => by
    obtain ⟨j, hj, e⟩ := List.getElem_of_mem hv
    have := hz.1 j hj
    rw [rd_at st j hj, e] at this
    exact this
  obtain ⟨hb1, hb2⟩ := for_best hh g st hpw hrng hg.up hg.at_ hf
  rw [failP_none] at hb1
  obtain ⟨M, h1, h2⟩ := bnd_all cs fc st (fun c hc => (stints_all hh hz c hc).1.mp (hb1 c hc)) cs.length 0 0 (by omega)
  simp only [sumN] at h1
  rw [show ((0 : Nat) : Int) = 0 from rfl] at h1
  have hlen : ∀ c, c < cs.length → (stints cs fc st c).1.length ≤ cntC c g := fun c hc => by
    rw [(stints_all hh hz c hc).2 (hb1 c hc)]
    exact hb2 c hc
  have hgl := pl_small hh hz hg
  have hM : 0 ≤ M ∧ M ≤ (g.length : Int) := by
    rcases h2 with e | ⟨c, hc, e⟩
    · omega
    · have := hlen c hc
      have := cntC_le c g
      omega
  have hS := sumN_le (fun c => (stints cs fc st c).1.length) (fun c => cntC c g) cs.length hlen
  have hT : sumN cs.length (fun c => cntC c g) ≤ 5 * 60 := by
    have h3 := sumN_le (fun c => cntC c g) (fun _ => 60) cs.length (fun c _ => by have := cntC_le c g; omega)
    have h4 : ∀ m : Nat, sumN m (fun _ => 60) = 60 * m := fun m => by
      induction m with
      | zero => rfl
      | succ m ih => simp only [sumN]; omega
    rw [h4] at h3
    omega
  obtain ⟨e1, _, _⟩ := costGo_in x y hin.2.2.2.1 hin.2.2.2.2 g 0 (fun t ht => by have := f1_short hg t ht; omega) (by omega) (by omega) (by omega)
  unfold boundP
  rw [if_pos hh, h1]
  dsimp only
  have b1 := mul10k y ((sumN cs.length (fun c => (stints cs fc st c).1.length) : Nat) : Int) hin.2.2.2.2 (by omega)
  have b2 := mul10k x M hin.2.2.2.1 (by omega)
  have b3 : x * M ≤ x * (g.length : Int) := Int.mul_le_mul_of_nonneg_left hM.2 hin.2.2.2.1.1
  have b4 : y * ((sumN cs.length (fun c => (stints cs fc st c).1.length) : Nat) : Int) ≤ y * ((sumN cs.length (fun c => cntC c g) : Nat) : Int) := Int.mul_le_mul_of_nonneg_left (by omega) hin.2.2.2.2.1
  have w1 := w64 (x * M) (by omega) (by omega)
  rw [w1, e1, cost_sum x y g hg]
  have w2 := w64 (y * ((sumN cs.length (fun c => (stints cs fc st c).1.length) : Nat) : Int) + x * M) (by omega) (by omega)
  rw [w2]
  clear w1 w2 e1
  omega
theorem someGo_sub (st : List Int) (m : Nat) : ∀ d i : Nat, i + d = st.length → (someGo st m d i).Sublist (st.drop i)
  | 0, i, _ => List.nil_sublist _
  | d + 1, i, h => by
    have := someGo_sub st m d (i + 1) (by omega)
    rw [drop_at st i (by omega)]
    simp only [someGo]
    split
    · exact this.cons_cons _
    · exact this.cons _
theorem someOf_sub (st : List Int) (m : Nat) : (someOf st m).Sublist st := by
  have := someGo_sub st m st.length 0 (by omega)
  rwa [List.drop_zero] at this
theorem someAt_F {cs : List S34} {fc st : List Int} (hz : rz st 0 fc.length) (m : Nat) : PlanF cs.length st (planAt cs fc st m) := by
  have hpw := rz_pw hz
  have hsub := someOf_sub st m
  refine forP_F _ (List.Pairwise.sublist hsub hpw) (fun v hv => ?_) (fun v hv => hsub.subset hv)
  obtain ⟨j, hj, e⟩ := List.getElem_of_mem (hsub.subset hv)
  have := hz.1 j hj
  rw [rd_at st j hj, e] at this
  exact this
theorem best_is {cs : List S34} {fc st : List Int} {x y : Int} (hh : hdOk cs fc st x y = true) (hz : rz st 0 fc.length) :
    (failP cs fc (forP cs fc st)).isNone = true ∧ (∃ q c, bestOf cs fc st x y = some (q, c) ∧ PlanF cs.length st q ∧ (failP cs fc q).isNone = true ∧ c = costGo x y q 0 ∧ ∀ p, PlanF cs.length st p → (failP cs fc p).isNone = true → c ≤ costGo x y p 0)
    ∨ (failP cs fc (forP cs fc st)).isNone = false ∧ bestOf cs fc st x y = none ∧ ∀ p, PlanF cs.length st p → (failP cs fc p).isNone = false := by
  have hin := hdOk_in hh
  have hpw := rz_pw hz
  have hrng : ∀ v ∈ st, 0 ≤ v ∧ v < (fc.length : Int) := fun v hv => by
    obtain ⟨j, hj, e⟩ := List.getElem_of_mem hv
    have := hz.1 j hj
    rw [rd_at st j hj, e] at this
    exact this
  obtain ⟨a1, _, a3⟩ := best_min cs fc st x y (2 ^ st.length) 0 none
  cases hf : (failP cs fc (forP cs fc st)).isNone with
  | false =>
    have hno : ∀ p, PlanF cs.length st p → (failP cs fc p).isNone = false := fun p hp => by
      rw [Bool.eq_false_iff]
      intro hh2
      have := (for_best hh p st hpw hrng hp.up hp.at_ hh2).1
      rw [hf] at this
      cases this
    refine Or.inr ⟨rfl, ?_, hno⟩
    unfold bestOf
    cases hb : bestGo cs fc st x y (2 ^ st.length) 0 none with
    | none => rfl
    | some qc =>
      rcases a3 qc.1 qc.2 hb with e | ⟨m', _, _, h1, _⟩
      · cases e
      · have := hno _ (someAt_F (cs := cs) hz m')
        unfold okAt at h1
        rw [this] at h1
        cases h1
  | true =>
    have hle : ∀ p, PlanF cs.length st p → (failP cs fc p).isNone = true → ∃ q c, bestOf cs fc st x y = some (q, c) ∧ c ≤ costGo x y p 0 := fun p hp hpf => by
      obtain ⟨r1, r2, r3⟩ := rings_ok hz hp
      obtain ⟨m, m1, m2⟩ := some_mask st (ringsP p) hpw r1 r3
      obtain ⟨g1, g2⟩ := for_best hh p (ringsP p) r1 r2 hp.up (fun t ht => List.mem_map.mpr ⟨t, ht, rfl⟩) hpf
      have hok : okAt cs fc st m = true := by
        unfold okAt planAt
        rw [m2]
        exact g1
      obtain ⟨q, c, e1, e2⟩ := a1 m (by omega) (by omega) hok
      refine ⟨q, c, e1, Int.le_trans e2 ?_⟩
      have hgF := someAt_F (cs := cs) hz m
      unfold planAt at hgF ⊢
      rw [m2] at hgF ⊢
      have hgl := (forP_in fc (ringsP p) hin.1 (by rw [ringsP_len]; have := pl_small hh hz hp; omega)).1
      rw [ringsP_len] at hgl
      exact cost_le hin.2.2.2.1 hin.2.2.2.2 hin.1 hgF hp (by have := pl_small hh hz hp; omega) hgl g2
    obtain ⟨q, c, e1, _⟩ := hle (forP cs fc st) (forP_F st hpw hrng (fun v hv => hv)) hf
    refine Or.inl ⟨rfl, q, c, e1, ?_⟩
    rcases a3 q c e1 with e | ⟨m', _, _, h1, h2, h3⟩
    · cases e
    · refine ⟨by rw [h2]; exact someAt_F hz m', by rw [h2]; exact h1, by rw [h2]; exact h3, fun p hp hpf => ?_⟩
      obtain ⟨q2, c2, e2, e3⟩ := hle p hp hpf
      rw [e1] at e2
      simp only [Option.some.injEq, Prod.mk.injEq] at e2
      rw [e2.2]
      exact e3

/- The stints of a cutter, one behind the other: each begins at the last safe ring that the elder one reaches. -/
def chn (T : Nat → Nat) (N : Nat) (st : List Int) : Nat → List (List Int) → Prop
  | _, [] => True
  | b, r :: t => T b < N ∧ b < T b ∧ r = [(b : Int), ((T b : Nat) : Int)] ∧ ∃ n : Nat, b < n ∧ n ≤ T b ∧ (∀ w ∈ st, (b : Int) < w → w ≤ ((T b : Nat) : Int) → w ≤ (n : Int)) ∧ chn T N st n t
theorem nextL_last (b t : Int) : ∀ (l : List Int) (c : Int), l.Pairwise (· < ·) → (∀ w ∈ l, b < w → w ≤ t → c ≤ w ∨ c < 0) → ∀ w ∈ l, b < w → w ≤ t → 0 ≤ w → w ≤ nextL b t l c
  | [], c, _, _, w, hw, _, _, _ => by simp at hw
  | v :: l, c, hp, hc, w, hw, h1, h2, h0 => by
    have hp2 := List.pairwise_cons.mp hp
    simp only [nextL]
    rcases List.mem_cons.mp hw with e | e
    · subst e
      rw [if_pos h1, if_pos h2]
      exact nextL_ge b t l w hp2.2 (fun z hz => Int.le_of_lt (hp2.1 z hz))
    · refine nextL_last b t l _ hp2.2 (fun z hz z1 z2 => ?_) w e h1 h2 h0
      by_cases q : v > b
      · rw [if_pos q]
        by_cases q2 : v ≤ t
        · rw [if_pos q2]; exact Or.inl (Int.le_of_lt (hp2.1 z hz))
        · rw [if_neg q2]; exact hc z (by simp [hz]) z1 z2
      · rw [if_neg q]; exact hc z (by simp [hz]) z1 z2
where
  nextL_ge (b t : Int) : ∀ (l : List Int) (c : Int), l.Pairwise (· < ·) → (∀ z ∈ l, c ≤ z) → c ≤ nextL b t l c
    | [], c, _, _ => Int.le_refl _
    | v :: l, c, hp, h => by
      have hp2 := List.pairwise_cons.mp hp
      have hv := h v (by simp)
      simp only [nextL]
      by_cases q : v > b
      · by_cases q2 : v ≤ t
        · rw [if_pos q, if_pos q2]
          exact Int.le_trans hv (nextL_ge b t l v hp2.2 (fun z hz => Int.le_of_lt (hp2.1 z hz)))
        · rw [if_pos q, if_neg q2]
          exact nextL_ge b t l c hp2.2 (fun z hz => h z (by simp [hz]))
      · rw [if_neg q]
        exact nextL_ge b t l c hp2.2 (fun z hz => h z (by simp [hz]))
theorem stintsGo_chn (cs : List S34) (fc st : List Int) (a : Nat) (hst : st.Pairwise (· < ·)) : ∀ (d b : Nat) (acc : List (List Int)), b ≤ fc.length → (stintsGo cs fc st a d b acc).2 = true → ∃ t, (stintsGo cs fc st a d b acc).1 = acc ++ t ∧ chn (fun b => reachOf cs fc a b 0) fc.length st b t
  | 0, _, _, _, h => by simp [stintsGo] at h
  | d + 1, b, acc, hb, h => by
    have hT := reachOf_in cs fc a b 0 hb
    simp only [stintsGo] at h ⊢
    by_cases c : ((reachOf cs fc a b 0 : Nat) : Int) = (fc.length : Int)
    · rw [if_pos c]
      exact ⟨[], by simp, trivial⟩
    · rw [if_neg c] at h ⊢
      by_cases c2 : nextOf st b (reachOf cs fc a b 0 : Nat) st.length 0 (-1) < 0
      · rw [if_pos c2] at h
        cases h
      · rw [if_neg c2] at h ⊢
        have hn := nextOf_in st b (reachOf cs fc a b 0 : Nat) st.length 0 (-1)
        have e := nextOf_L st b (reachOf cs fc a b 0 : Nat) st.length 0 (-1) (by omega)
        rw [List.drop_zero] at e
        have hl := nextL_last b (reachOf cs fc a b 0 : Nat) st (-1) hst (fun _ _ _ _ => Or.inr (by omega))
        rw [← e] at hl
        clear e
        generalize nextOf st b (reachOf cs fc a b 0 : Nat) st.length 0 (-1) = n at hn hl h c2 ⊢
        obtain ⟨n, rfl⟩ : ∃ m : Nat, n = m := ⟨n.toNat, by omega⟩
        rw [Int.toNat_natCast] at h ⊢
        obtain ⟨t, h1, h2⟩ := stintsGo_chn cs fc st a hst d n _ (by omega) h
        refine ⟨[(b : Int), ((reachOf cs fc a b 0 : Nat) : Int)] :: t, ?_, (show reachOf cs fc a b 0 < fc.length by omega), (show b < reachOf cs fc a b 0 by omega), rfl, n, by omega, (show n ≤ reachOf cs fc a b 0 by omega), fun w hw w1 w2 => hl w hw w1 w2 (by omega), h2⟩
        rw [h1, List.append_assoc]
        rfl
theorem stints_chn (cs : List S34) (fc st : List Int) (a : Nat) (hst : st.Pairwise (· < ·)) (h : (stints cs fc st a).2 = true) : chn (fun b => reachOf cs fc a b 0) fc.length st 0 (stints cs fc st a).1 := by
  obtain ⟨t, h1, h2⟩ := stintsGo_chn cs fc st a hst (fc.length + 1) 0 [] (by omega) h
  unfold stints
  rw [h1]
  exact h2
theorem stintsGo_one (cs : List S34) (fc st : List Int) (a : Nat) (g : S34) (hg : rd_T34 cs (a : Int) = g) : ∀ (d b : Nat) (acc : List (List Int)), stintsGo [g] fc st 0 d b acc = stintsGo cs fc st a d b acc
  | 0, _, _ => rfl
  | d + 1, b, acc => by
    have e : reachOf [g] fc 0 b 0 = reachOf cs fc a b 0 := by
      unfold reachOf
      rw [hg]
      rfl
    simp only [stintsGo, e]
    rw [stintsGo_one cs fc st a g hg d]
theorem stints_one (cs : List S34) (fc st : List Int) (a : Nat) : stints [rd_T34 cs (a : Int)] fc st 0 = stints cs fc st a := stintsGo_one cs fc st a _ rfl _ _ _
theorem alone_cost {g : S34} {fc st : List Int} (hh : hdOk [g] fc st 0 1 = true) (hz : rz st 0 fc.length) :
    (cheapP [g] fc st 0 1).2.2 = (stints [g] fc st 0).2 ∧ ((stints [g] fc st 0).2 = true → (cheapP [g] fc st 0 1).2.1 = ((stints [g] fc st 0).1.length : Int)) := by
  have hpw := rz_pw hz
  have hrng : ∀ v ∈ st, 0 ≤ v ∧ v < (fc.length : Int) := fun v hv => by
    obtain ⟨j, hj, e⟩ := List.getElem_of_mem hv
    have := hz.1 j hj
    rw [rd_at st j hj, e] at this
    exact this
  have hfF := forP_F (cs := [g]) (fc := fc) st hpw hrng (fun v hv => hv)
  obtain ⟨s1, s2⟩ := stints_all hh hz 0 (by simp)
  have hok : (failP [g] fc (forP [g] fc st)).isNone = true ↔ (stints [g] fc st 0).2 = true := by
    rw [failP_none, ← s1]
    constructor
    · intro h
      exact h 0 (by simp)
    · intro h c hc
      have : c = 0 := by simp at hc; omega
      rw [this]
      exact h
  unfold cheapP
  rw [if_pos hh]
  rcases best_is hh hz with ⟨hf, q, c, e1, hqF, hqf, hqc, hmin⟩ | ⟨hf, e1, hno⟩
  · have hst := hok.mp hf
    rw [e1, hst]
    refine ⟨rfl, fun _ => ?_⟩
    have hle1 := hmin _ hfF hf
    have hle2 := bound_le hh hz hqF hqf
    have hl := s2 (s1.mpr hst)
    have hfl := pl_small hh hz hfF
    obtain ⟨e2, _, _⟩ := costGo_in 0 1 (by omega) (by omega) (forP [g] fc st) 0 (fun t ht => by have := f1_short hfF t ht; simp at this; omega) (by omega) (by omega) (by omega)
    rw [e2, cost_sum 0 1 _ hfF] at hle1
    have hbd : (boundP [g] fc st 0 1).1 = ((stints [g] fc st 0).1.length : Int) := by
      have hsl : (stints [g] fc st 0).1.length ≤ fc.length + 1 := stints_len _ _ _ _
      have hin := hdOk_in hh
      unfold boundP
      rw [if_pos hh]
      simp only [List.length_singleton, bndGo]
      rw [if_pos hst]
      simp only [bndGo]
      rw [w64 (0 * _) (by omega) (by omega), w64 _ (by omega) (by omega)]
      omega
    rw [hbd] at hle2
    simp only [outC]
    simp only [List.length_singleton, sumN] at hle1
    rw [← hl] at hle1
    omega
  · have hst : (stints [g] fc st 0).2 = false := by
      rw [Bool.eq_false_iff]
      intro h
      rw [hok.mpr h] at hf
      cases hf
    rw [e1, hst]
    exact ⟨rfl, fun h => by cases h⟩

end Go.Proofs.Ytfcadpkhmkjibaa.P
