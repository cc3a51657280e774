/- What the claim of FnExactReadPlan bears, part 3: functions of the program as plain Lean functions, with proofs that the code comes to their answers, and lemmas on them. -/
import Derived.Test.YtfcadpkhmkjibaaDoorCFnExactReadPlan2
import Derived.Test.YtfcadpkhmkjibaaDoorCFnExactReadPlan1
import Derived.Test.YtfcadpkhmkjibaaDoorCFnExactReadPlan0
set_option linter.unusedVariables false
set_option linter.unusedSimpArgs false
/- A list is marked with rising numbers, and still holds them. -/
namespace Go.Proofs.YtfcadpkhmkjibaaDoor.P
open Go.RowKit Go.Proofs.YtfcadpkhmkjibaaDoor.P Go.Proofs.YtfcadpkhmkjibaaDoorW.PrintWords Go.Proofs.YtfcadpkhmkjibaaDoorW.PrintLast Go.Proofs.YtfcadpkhmkjibaaDoorW.PrintMore
set_option linter.unusedVariables false
set_option linter.unusedSimpArgs false
theorem markInt_loop (n : Nat) (hb : n ≤ 4000000000000000000) (m : Int) (hm : 0 ≤ m ∧ m ≤ 4000000000000000000) : ∀ (d k i : Nat) (l : List Int), i + d = n → d < k → l.length = n → l.take i = (iota m n).take i → laws_markInt64S.l0 k l (m + i) i = some (m + n, iota m n) := by
  intro d
  induction d with
  | zero =>
    intro k i l hi hk hl ht
    obtain ⟨k, rfl⟩ : ∃ m, k = m + 1 := ⟨k - 1, by omega⟩
    simp only [laws_markInt64S.l0]
    rw [if_neg (by omega)]
    rw [List.take_of_length_le (by omega), List.take_of_length_le (by rw [iota_length]; omega)] at ht
    rw [ht, show i = n by omega]
  | succ d ih =>
    intro k i l hi hk hl ht
    obtain ⟨k, rfl⟩ : ∃ m, k = m + 1 := ⟨k - 1, by omega⟩
    simp only [laws_markInt64S.l0]
    rw [if_pos (by omega), if_pos (by omega), w64s i (by omega), Int.toNat_natCast, w64 (m + i + 1) (by omega) (by omega), show m + (i : Int) + 1 = m + ((i + 1 : Nat) : Int) by omega]
    exact ih k (i + 1) _ (by omega) (by omega) (by rw [List.length_set]; exact hl) (fill_step (iota m n) l i _ (by rw [iota_length]; omega) (by rw [iota_length]; exact hl) ht (iota_get m n i (by rw [iota_length]; omega)))
theorem markInt_is (k : Nat) (l : List Int) (m : Int) (hm : 0 ≤ m ∧ m ≤ 4000000000000000000) (hb : l.length ≤ 4000000000000000000) (hk : l.length < k) : laws_markInt64S.f k l m = some (m + l.length, iota m l.length) := by
  unfold laws_markInt64S.f
  have := markInt_loop l.length hb m hm l.length k 0 l (by omega) hk rfl (by simp)
  simpa using this

/- Two lists of numbers are compared. -/
theorem eqInt_loop (a b : List Int) (hl : a.length = b.length) (hb : a.length ≤ 9223372036854775807) : ∀ (d k i : Nat), i + d = a.length → d < k → laws_eqInt64S.l0 k a b i = some (decide (a.drop i = b.drop i)) := by
  intro d
  induction d with
  | zero =>
    intro k i hi hk
    obtain ⟨k, rfl⟩ : ∃ m, k = m + 1 := ⟨k - 1, by omega⟩
    simp only [laws_eqInt64S.l0]
    rw [if_neg (by omega), List.drop_of_length_le (by omega), List.drop_of_length_le (by omega)]
    simp
  | succ d ih =>
    intro k i hi hk
    obtain ⟨k, rfl⟩ : ∃ m, k = m + 1 := ⟨k - 1, by omega⟩
    simp only [laws_eqInt64S.l0]
    rw [if_pos (by omega), if_pos (by omega), if_pos (by omega), w64s i (by omega), ih k (i + 1) (by omega) (by omega), drop_at a i (by omega), drop_at b i (by omega)]
    by_cases h : rd a i = rd b i
    · rw [if_pos h]; simp [h]
    · rw [if_neg h]; simp [h]
theorem eqInt_is (k : Nat) (a b : List Int) (hb : a.length ≤ 9223372036854775807) (hk : a.length < k) : laws_eqInt64S.f k a b = some (decide (a = b)) := by
  unfold laws_eqInt64S.f
  by_cases h : a.length = b.length
  · rw [if_pos (by omega)]
    have := eqInt_loop a b h hb a.length k 0 (by omega) hk
    simpa using this
  · rw [if_neg (by omega)]
    have : a ≠ b := fun e => h (by rw [e])
    simp [this]

/- A list of numbers is copied. -/
theorem toInt_loop (l : List Int) (hb : l.length ≤ 9223372036854775807) : ∀ (d k i : Nat) (acc : List Int), i + d = l.length → d < k → acc.length = l.length → acc.take i = l.take i → laws_toInt64S.l0 k l acc i = some l := by
  intro d
  induction d with
  | zero =>
    intro k i acc hi hk ha ht
    obtain ⟨k, rfl⟩ : ∃ m, k = m + 1 := ⟨k - 1, by omega⟩
    simp only [laws_toInt64S.l0]
    rw [if_neg (by omega)]
    rw [List.take_of_length_le (by omega), List.take_of_length_le (by omega)] at ht
    rw [ht]
  | succ d ih =>
    intro k i acc hi hk ha ht
    obtain ⟨k, rfl⟩ : ∃ m, k = m + 1 := ⟨k - 1, by omega⟩
    simp only [laws_toInt64S.l0]
    rw [if_pos (by omega), if_pos (by omega), if_pos (by omega), w64s i (by omega), Int.toNat_natCast]
    exact ih k (i + 1) _ (by omega) (by omega) (by rw [List.length_set]; exact ha) (fill_step l acc i _ (by omega) ha ht (rd_at l i (by omega)).symm)
theorem toInt_is (k : Nat) (l : List Int) (hb : l.length ≤ 35184372088832) (hk : l.length < k) : laws_toInt64S.f k l = some l := by
  unfold laws_toInt64S.f
  rw [if_pos (by omega), if_pos (by omega)]
  exact toInt_loop l (by omega) l.length k 0 _ (by omega) hk (by simp) (by simp)

open Go.RowKit Go.Proofs.YtfcadpkhmkjibaaDoorW.PrintWords Go.Proofs.YtfcadpkhmkjibaaDoorW.PrintLast Go.Proofs.YtfcadpkhmkjibaaDoorW.PrintMore
attribute [local go_sem] max2_int min2_int max_two min_two max_three min_three max_four min_four   -- for this text's walks alone

/- A list of the law's own structs that hold lists is copied into the program's, measured, and equal to itself. -/
theorem rdStop_at (l : List S66) (i : Nat) (h : i < l.length) : rd_T66 l (i : Int) = l[i] := by
  unfold rd_T66
  rw [Int.toNat_natCast, List.getD_eq_getElem?_getD, List.getElem?_eq_getElem h]
  rfl
def shortS (l : List S66) : Prop := l.length ≤ 1048576 ∧ ∀ s ∈ l, s.f1.length ≤ 1048576
theorem shortS_at {l : List S66} (h : shortS l) (i : Nat) (hi : i < l.length) : (rd_T66 l (i : Int)).f1.length ≤ 1048576 := by
  rw [rdStop_at l i hi]
  exact h.2 _ (List.getElem_mem hi)
theorem eqStopS_loop (a : List S66) (hs : shortS a) : ∀ (d k i : Nat), i + d = a.length → d + 1048576 < k → laws_eqStopS.l0 k a a i = some true := by
  intro d
  have hb := hs.1
  induction d with
  | zero =>
    intro k i hi hk
    obtain ⟨k, rfl⟩ : ∃ m, k = m + 1 := ⟨k - 1, by omega⟩
    simp only [laws_eqStopS.l0]
    rw [if_neg (by omega)]
  | succ d ih =>
    intro k i hi hk
    obtain ⟨k, rfl⟩ : ∃ m, k = m + 1 := ⟨k - 1, by omega⟩
    have h1 := shortS_at hs i (by omega)
    simp only [laws_eqStopS.l0, laws_eqStop.f, if_true]
    rw [if_pos (by omega), if_pos (by omega), if_pos (by omega), eqInt_is k _ _ (by omega) (by omega), bind_some_, if_pos (decide_eq_true rfl), bind_some_, if_pos rfl, w64s i (by omega)]
    exact ih k (i + 1) (by omega) (by omega)
theorem eqStopS_refl (k : Nat) (a : List S66) (hs : shortS a) (hk : a.length + 1048576 < k) : laws_eqStopS.f k a a = some true := by
  unfold laws_eqStopS.f
  rw [if_pos rfl]
  exact eqStopS_loop a hs a.length k 0 (by omega) hk

/- A plan is marked with rising numbers. -/
def iotaStop : Int → List S66 → List S66
  | _, [] => []
  | m, r :: rs => ⟨m, iota (m + 1) r.f1.length⟩ :: iotaStop (m + 1 + r.f1.length) rs
def cntStop : List S66 → Nat
  | [] => 0
  | r :: rs => 1 + r.f1.length + cntStop rs
theorem cntStop_le : ∀ rs : List S66, (∀ s ∈ rs, s.f1.length ≤ 1048576) → cntStop rs ≤ 1048577 * rs.length
  | [], _ => by simp [cntStop]
  | r :: rs, h => by
    have h1 := h r (by simp)
    have h2 := cntStop_le rs (fun s hs => h s (by simp [hs]))
    simp only [cntStop, List.length_cons]
    omega
theorem markStop_loop : ∀ (todo : List S66) (k : Nat) (pre : List S66) (m : Int), (pre.length + todo.length : Int) ≤ 4000000000000000000 → (∀ s ∈ todo, s.f1.length ≤ 1048576) → 1048577 + todo.length < k → 0 ≤ m → m + cntStop todo ≤ 3000000000000000000 → laws_markStopS.l0 k (pre ++ todo) m pre.length = some (m + cntStop todo, pre ++ iotaStop m todo) := by
  intro todo
  induction todo with
  | nil =>
    intro k pre m h1 hr h2 h3 h4
    obtain ⟨k, rfl⟩ : ∃ m, k = m + 1 := ⟨k - 1, by omega⟩
    simp only [laws_markStopS.l0]
    rw [if_neg (by simp)]
    simp [cntStop, iotaStop]
  | cons r rs ih =>
    intro k pre m h1 hr h2 h3 h4
    obtain ⟨k, rfl⟩ : ∃ m, k = m + 1 := ⟨k - 1, by omega⟩
    have hl := hr r (by simp)
    simp only [cntStop, List.length_cons] at h1 h2 h4
    have e1 : rd_T66 (pre ++ r :: rs) (pre.length : Int) = r := by
      unfold rd_T66
      rw [Int.toNat_natCast, List.getD_eq_getElem?_getD, List.getElem?_append_right (Nat.le_refl _), Nat.sub_self]
      rfl
    have e2 : ∀ v : S66, (pre ++ r :: rs).set ((pre.length : Int)).toNat v = (pre ++ [v]) ++ rs := by
      intro v
      rw [Int.toNat_natCast, List.set_append_right _ _ (Nat.le_refl _), Nat.sub_self]
      simp
    have e3 : pre.length + 1 = (pre ++ [(⟨m, iota (m + 1) r.f1.length⟩ : S66)]).length := by simp
    simp only [laws_markStopS.l0]
    rw [if_pos (by simp; omega), if_pos (by omega), e1, w64 (m + 1) (by omega) (by omega), markInt_is k r.f1 (m + 1) (by omega) (by omega) (by omega), bind_some_, e2, w64s pre.length (by omega), e3, ih k _ (m + 1 + r.f1.length) (by simp; omega) (fun s hs => hr s (by simp [hs])) (by omega) (by omega) (by omega)]
    simp only [cntStop, iotaStop, List.append_assoc, List.singleton_append, Int.natCast_add, Int.add_assoc]
    rfl
theorem markStop_is (k : Nat) (rs : List S66) (m : Int) (hp : shortS rs) (hm : 0 ≤ m ∧ m ≤ 1000000000) (hk : 3000000 < k) : laws_markStopS.f k rs m = some (m + (cntStop rs : Int), iotaStop m rs) := by
  have h1 := hp.1
  have h2 := cntStop_le rs hp.2
  have h3 : 1048577 * rs.length ≤ 1048577 * 1048576 := Nat.mul_le_mul (Nat.le_refl _) h1
  have e1 := markStop_loop rs k [] m (by simp; omega) hp.2 (by omega) (by omega) (by omega)
  exact e1

/- A plan that was marked still holds its marks. -/
theorem heldStop_loop : ∀ (todo : List S66) (k : Nat) (pre : List S66) (m : Int), (pre.length + todo.length : Int) ≤ 4000000000000000000 → (∀ s ∈ todo, s.f1.length ≤ 1048576) → 1048577 + todo.length < k → 0 ≤ m → m + cntStop todo ≤ 3000000000000000000 → laws_heldStopS.l0 k (pre ++ iotaStop m todo) m pre.length = some (m + cntStop todo) := by
  intro todo
  induction todo with
  | nil =>
    intro k pre m h1 hr h2 h3 h4
    obtain ⟨k, rfl⟩ : ∃ m, k = m + 1 := ⟨k - 1, by omega⟩
    simp only [laws_heldStopS.l0]
    rw [if_neg (by simp [iotaStop])]
    simp [cntStop]
  | cons r rs ih =>
    intro k pre m h1 hr h2 h3 h4
    obtain ⟨k, rfl⟩ : ∃ m, k = m + 1 := ⟨k - 1, by omega⟩
    have hl := hr r (by simp)
    simp only [cntStop, List.length_cons] at h1 h2 h4
    have e1 : rd_T66 (pre ++ iotaStop m (r :: rs)) (pre.length : Int) = ⟨m, iota (m + 1) r.f1.length⟩ := by
      unfold rd_T66
      rw [Int.toNat_natCast, List.getD_eq_getElem?_getD, List.getElem?_append_right (Nat.le_refl _), Nat.sub_self]
      rfl
    have e2 : pre ++ iotaStop m (r :: rs) = (pre ++ [(⟨m, iota (m + 1) r.f1.length⟩ : S66)]) ++ iotaStop (m + 1 + r.f1.length) rs := by simp [iotaStop]
    have e3 : pre.length + 1 = (pre ++ [(⟨m, iota (m + 1) r.f1.length⟩ : S66)]).length := by simp
    simp only [laws_heldStopS.l0]
    rw [if_pos (by simp [iotaStop]; omega), if_pos (by omega), e1, if_pos rfl, w64 (m + 1) (by omega) (by omega)]
    try dsimp only
    rw [heldInt_is k r.f1.length (m + 1) (by omega) (by omega) (by omega), bind_some_, if_neg (by omega), w64s pre.length (by omega), e3, e2, ih k _ (m + 1 + r.f1.length) (by simp; omega) (fun s hs => hr s (by simp [hs])) (by omega) (by omega) (by omega)]
    simp only [cntStop, Int.natCast_add, Int.add_assoc]
    rfl
theorem heldStop_is (k : Nat) (rs : List S66) (m : Int) (hp : shortS rs) (hm : 0 ≤ m ∧ m ≤ 1000000000) (hk : 3000000 < k) : laws_heldStopS.f k (iotaStop m rs) m = some (m + (cntStop rs : Int)) := by
  have h1 := hp.1
  have h2 := cntStop_le rs hp.2
  have h3 : 1048577 * rs.length ≤ 1048577 * 1048576 := Nat.mul_le_mul (Nat.le_refl _) h1
  have e1 := heldStop_loop rs k [] m (by simp; omega) hp.2 (by omega) (by omega) (by omega)
  exact e1

/- A list of structs is equal to itself. -/
theorem eqCutterS_loop (a : List S77) (hb : a.length ≤ 9223372036854775807) : ∀ (d k i : Nat), i + d = a.length → d < k → laws_eqCutterS.l0 k a a i = some true := by
  intro d
  induction d with
  | zero =>
    intro k i hi hk
    obtain ⟨k, rfl⟩ : ∃ m, k = m + 1 := ⟨k - 1, by omega⟩
    simp only [laws_eqCutterS.l0]
    rw [if_neg (by omega)]
  | succ d ih =>
    intro k i hi hk
    obtain ⟨k, rfl⟩ : ∃ m, k = m + 1 := ⟨k - 1, by omega⟩
    simp only [laws_eqCutterS.l0, laws_eqCutter.f, if_true, bind_some_]
    rw [if_pos (by omega), if_pos (by omega), if_pos (by omega), w64s i (by omega)]
    exact ih k (i + 1) (by omega) (by omega)
theorem eqCutterS_refl (k : Nat) (a : List S77) (hb : a.length ≤ 9223372036854775807) (hk : a.length < k) : laws_eqCutterS.f k a a = some true := by
  unfold laws_eqCutterS.f
  rw [if_pos rfl]
  exact eqCutterS_loop a hb a.length k 0 (by omega) hk

/- A list of the law's own structs is copied into the program's. -/
def toCutter (x : S91) : S77 := ⟨x.f0, x.f1⟩
theorem rdLCutter_at (l : List S91) (i : Nat) (h : i < l.length) : rd_T91 l (i : Int) = l[i] := by
  unfold rd_T91
  rw [Int.toNat_natCast, List.getD_eq_getElem?_getD, List.getElem?_eq_getElem h]
  rfl
theorem toCutterS_loop (l : List S91) (hb : l.length ≤ 9223372036854775807) : ∀ (d k i : Nat) (acc : List S77), i + d = l.length → d < k → acc.length = l.length → acc.take i = (l.map toCutter).take i → laws_toCutterS.l0 k l acc i = some (l.map toCutter) := by
  intro d
  induction d with
  | zero =>
    intro k i acc hi hk ha ht
    obtain ⟨k, rfl⟩ : ∃ m, k = m + 1 := ⟨k - 1, by omega⟩
    simp only [laws_toCutterS.l0]
    rw [if_neg (by omega)]
    rw [List.take_of_length_le (by omega), List.take_of_length_le (by rw [List.length_map]; omega)] at ht
    rw [ht]
  | succ d ih =>
    intro k i acc hi hk ha ht
    obtain ⟨k, rfl⟩ : ∃ m, k = m + 1 := ⟨k - 1, by omega⟩
    simp only [laws_toCutterS.l0, laws_toCutter.f, bind_some_]
    rw [if_pos (by omega), if_pos (by omega), if_pos (by omega), w64s i (by omega), Int.toNat_natCast]
    refine ih k (i + 1) _ (by omega) (by omega) (by rw [List.length_set]; exact ha) (fill_step (l.map toCutter) acc i _ (by rw [List.length_map]; omega) (by rw [List.length_map]; exact ha) ht ?_)
    rw [List.getElem_map, rdLCutter_at l i (by omega)]
    rfl
theorem toCutterS_is (k : Nat) (l : List S91) (hb : l.length ≤ 1048576) (hk : l.length < k) : laws_toCutterS.f k l = some (l.map toCutter) := by
  unfold laws_toCutterS.f
  rw [if_pos (by omega), if_pos (by omega)]
  exact toCutterS_loop l (by omega) l.length k 0 _ (by omega) hk (by simp) (by simp)

/- A head is copied, measured, and equal to itself. -/
theorem toHead_is (k : Nat) (cs : List S91) (fc st : List Int) (x y : Int) (hc : cs.length ≤ 1048576) (hb : fc.length ≤ 1048576) (hs : st.length ≤ 1048576) (hk : cs.length + fc.length + st.length < k) : laws_toHead.f k cs fc st x y = some (cs.map toCutter, fc, st, x, y) := by
  unfold laws_toHead.f
  rw [toCutterS_is k cs hc (by omega), bind_some_, toInt_is k fc (by omega) (by omega), bind_some_, toInt_is k st (by omega) (by omega), bind_some_]
theorem eqHead_refl (k : Nat) (cs : List S77) (fc st : List Int) (x y : Int) (hc : cs.length ≤ 1048576) (hb : fc.length ≤ 1048576) (hs : st.length ≤ 1048576) (hk : cs.length + fc.length + st.length < k) : laws_eqHead.f k cs fc st x y cs fc st x y = some true := by
  unfold laws_eqHead.f
  rw [eqCutterS_refl k cs (by omega) (by omega), bind_some_, if_pos rfl, eqInt_is k fc fc (by omega) (by omega), bind_some_, if_pos (decide_eq_true rfl), eqInt_is k st st (by omega) (by omega), bind_some_, if_pos (decide_eq_true rfl), if_pos rfl, if_pos rfl]
theorem szHead_is2 (cs : List S91) (fc st : List Int) (x y : Int) (hc : cs.length ≤ 9223372036854775807) (hb : fc.length ≤ 9223372036854775807) (hs : st.length ≤ 9223372036854775807) : ∃ r, laws_szHead.f cs fc st x y 1048576 = some r ∧ r ≤ 1048576 ∧ (r < 0 ∨ (cs.length ≤ 1048576 ∧ fc.length ≤ 1048576 ∧ st.length ≤ 1048576)) := by
  unfold laws_szHead.f laws_szCutterS.f laws_szInt64S.f
  rw [w64 (1048576 - (cs.length : Int)) (by omega) (by omega)]
  by_cases h1 : 1048576 - (cs.length : Int) < 0
  · rw [if_pos h1, bind_some_, if_pos (by omega)]
    exact ⟨_, rfl, by omega, Or.inl (by omega)⟩
  · rw [if_neg h1, bind_some_, if_neg h1, w64 (1048576 - (cs.length : Int) - (fc.length : Int)) (by omega) (by omega)]
    by_cases h2 : 1048576 - (cs.length : Int) - (fc.length : Int) < 0
    · rw [if_pos h2, bind_some_, if_pos (by omega)]
      exact ⟨_, rfl, by omega, Or.inl (by omega)⟩
    · rw [if_neg h2, bind_some_, if_neg h2, w64 (1048576 - (cs.length : Int) - (fc.length : Int) - (st.length : Int)) (by omega) (by omega)]
      by_cases h3 : 1048576 - (cs.length : Int) - (fc.length : Int) - (st.length : Int) < 0
      · rw [if_pos h3, bind_some_, if_pos (by omega)]
        exact ⟨_, rfl, by omega, Or.inl (by omega)⟩
      · rw [if_neg h3, bind_some_, if_neg h3]
        exact ⟨_, rfl, by omega, Or.inr (by omega)⟩
theorem szHead_is (cs : List S91) (fc st : List Int) (x y : Int) (hc : cs.length ≤ 9223372036854775807) (hb : fc.length ≤ 9223372036854775807) (hs : st.length ≤ 9223372036854775807) : ∃ r, laws_szHead.f cs fc st x y 1048576 = some r ∧ (r < 0 ∨ (cs.length ≤ 1048576 ∧ fc.length ≤ 1048576 ∧ st.length ≤ 1048576)) := by
  obtain ⟨r, h1, _, h2⟩ := szHead_is2 cs fc st x y hc hb hs
  exact ⟨r, h1, h2⟩

/- An element of a list of structs, read at an index. -/
theorem rdCutter_at (l : List S77) (i : Nat) (h : i < l.length) : rd_T77 l (i : Int) = l[i] := by
  unfold rd_T77
  rw [Int.toNat_natCast, List.getD_eq_getElem?_getD, List.getElem?_eq_getElem h]
  rfl
/- A list of structs is marked with rising numbers, and still holds them. -/
def iotaCutter (m : Int) (c : Nat) : List S77 := (List.range c).map fun (i : Nat) => ⟨m + 2 * (i : Int), m + 2 * (i : Int) + 1⟩
theorem iotaCutter_len (m : Int) (c : Nat) : (iotaCutter m c).length = c := by simp [iotaCutter]
theorem iotaCutter_get (m : Int) (c i : Nat) (h : i < (iotaCutter m c).length) : (iotaCutter m c)[i] = ⟨m + 2 * (i : Int), m + 2 * (i : Int) + 1⟩ := by simp [iotaCutter]
theorem rdCutter_set (l : List S77) (i : Nat) (x : S77) (h : i < l.length) : rd_T77 (l.set i x) (i : Int) = x := by
  rw [rdCutter_at _ i (by rw [List.length_set]; exact h), List.getElem_set_self]
theorem markCutterS_loop (c : Nat) (hb : c ≤ 4000000000000000) (m : Int) (hm : 0 ≤ m ∧ m ≤ 4000000000000000) : ∀ (d k i : Nat) (l : List S77), i + d = c → d < k → l.length = c → l.take i = (iotaCutter m c).take i → laws_markCutterS.l0 k l (m + 2 * (i : Int)) i = some (m + 2 * c, iotaCutter m c) := by
  intro d
  induction d with
  | zero =>
    intro k i l hi hk hl ht
    obtain ⟨k, rfl⟩ : ∃ m, k = m + 1 := ⟨k - 1, by omega⟩
    simp only [laws_markCutterS.l0]
    rw [if_neg (by omega)]
    rw [List.take_of_length_le (by omega), List.take_of_length_le (by rw [iotaCutter_len]; omega)] at ht
    rw [ht, show i = c by omega]
  | succ d ih =>
    intro k i l hi hk hl ht
    obtain ⟨k, rfl⟩ : ∃ m, k = m + 1 := ⟨k - 1, by omega⟩
    have e1 : wrap64 (m + 2 * (i : Int) + 1) = m + 2 * (i : Int) + 1 := by
      rw [w64 _ (by omega) (by omega)] <;> omega
    have e2 : wrap64 (m + 2 * (i : Int) + 1 + 1) = m + 2 * ((i + 1 : Nat) : Int) := by
      rw [w64 _ (by omega) (by omega)] <;> omega
    simp only [laws_markCutterS.l0, bind_some_, Int.toNat_natCast, List.set_set, rdCutter_set l i _ (show i < l.length by omega)]
    rw [if_pos (by omega), if_pos (by omega), w64s i (by omega)]
    simp only [Int.add_assoc, Int.reduceAdd] at *
    simp only [e1, e2, Int.add_assoc, Int.reduceAdd]
    have ht2 := fill_step (iotaCutter m c) l i ⟨m + 2 * (i : Int), m + 2 * (i : Int) + 1⟩ (by rw [iotaCutter_len]; omega) (by rw [iotaCutter_len]; exact hl) ht (iotaCutter_get m c i (by rw [iotaCutter_len]; omega))
    have hz := ih k (i + 1) _ (by omega) (by omega) (by rw [List.length_set]; exact hl) ht2
    simp only [Int.add_assoc, Int.reduceAdd, List.set_set] at hz ⊢
    exact hz
theorem markCutterS_is (k : Nat) (l : List S77) (m : Int) (hm : 0 ≤ m ∧ m ≤ 4000000000000000) (hb : l.length ≤ 4000000000000000) (hk : l.length < k) : laws_markCutterS.f k l m = some (m + 2 * l.length, iotaCutter m l.length) := by
  unfold laws_markCutterS.f
  have := markCutterS_loop l.length hb m hm l.length k 0 l (by omega) hk rfl (by simp)
  simpa using this

/- A text cut at the first place of another one. -/
theorem idx_app (c : UInt8) (t r : List UInt8) : ∀ p : List UInt8, c ∉ p → Lib.index (p ++ ((c :: t) ++ r)) (c :: t) = (p.length : Int)
  | [], _ => by
    have h : (c :: t).isPrefixOf ((c :: t) ++ r) = true := List.isPrefixOf_iff_prefix.mpr (List.prefix_append _ _)
    rw [List.cons_append] at h
    rw [List.nil_append]
    show Lib.index (c :: (t ++ r)) (c :: t) = 0
    unfold Lib.index
    rw [if_pos h]
  | b :: p, hc => by
    have hb : ¬ c = b := fun e => hc (by simp [e])
    have h : (c :: t).isPrefixOf (b :: (p ++ ((c :: t) ++ r))) = false := by
      simp only [List.isPrefixOf]
      rw [beq_eq_false_iff_ne.mpr hb, Bool.false_and]
    have ih := idx_app c t r p (fun e => hc (by simp [e]))
    rw [List.cons_append]
    unfold Lib.index
    rw [h, ih, if_neg (by simp), if_neg (by simp), List.length_cons]
    omega
theorem cut_app (c : UInt8) (t r p : List UInt8) (h : c ∉ p) : Lib.cut (p ++ ((c :: t) ++ r)) (c :: t) = (p, r, true) := by
  unfold Lib.cut
  rw [idx_app c t r p h, if_pos (by omega), Int.toNat_natCast, List.take_left', List.drop_append, List.drop_of_length_le (by omega)]
  · congr 1
    rw [List.nil_append, show p.length + (c :: t).length - p.length = (c :: t).length by omega, List.drop_left]
  · rfl
theorem cut_len (s p : List UInt8) : (Lib.cut s p).1.length ≤ s.length ∧ (Lib.cut s p).2.1.length ≤ s.length := by
  unfold Lib.cut
  split
  · simp only [List.length_take, List.length_drop]
    omega
  · simp
theorem ext_tx (s : List UInt8) (f i : Nat) : (tx s).extract f i = tx ((s.drop f).take (i - f)) := by
  apply ByteArray.ext
  rw [ByteArray.data_extract]
  simp [tx]

/- A test at each of some numbers that follow one another. -/
def upTo (p : Nat → Bool) : Nat → Nat → Bool
  | 0, _ => true
  | d + 1, i => p i && upTo p d (i + 1)
theorem upTo_iff (p : Nat → Bool) : ∀ (d i : Nat), upTo p d i = true ↔ ∀ j, i ≤ j → j < i + d → p j = true := by
  intro d
  induction d with
  | zero => intro i; simp [upTo]; intro j h1 h2; omega
  | succ d ih =>
    intro i
    simp only [upTo, Bool.and_eq_true, ih]
    constructor
    · intro ⟨h0, h⟩ j h1 h2
      by_cases e : i = j
      · rw [← e]; exact h0
      · exact h j (by omega) (by omega)
    · intro h
      exact ⟨h i (Nat.le_refl _) (by omega), fun j h1 h2 => h j (by omega) (by omega)⟩

/- Numbers in a range that rise. -/
def riseOk (l : List Int) (lo hi : Int) (i : Nat) : Bool := decide (lo ≤ rd l i ∧ rd l i ≤ hi) && (decide (i = 0) || decide (rd l ((i - 1 : Nat) : Int) < rd l i))
def rises (l : List Int) (lo hi : Int) : Bool := upTo (riseOk l lo hi) l.length 0

/- What is asked of a head. -/
def cuOk (cs : List S77) (i : Nat) : Bool := decide (1 ≤ (rd_T77 cs i).f0 ∧ (rd_T77 cs i).f0 ≤ 100) && decide (1 ≤ (rd_T77 cs i).f1 ∧ (rd_T77 cs i).f1 ≤ 1000000)
def hdOk (cs : List S77) (fc st : List Int) (x y : Int) : Bool :=
  decide (1 ≤ (cs.length : Int) ∧ (cs.length : Int) ≤ 5) && (decide ((fc.length : Int) ≤ 60) && (decide ((st.length : Int) ≤ 8) && (rises st 0 (wrap64 ((fc.length : Int) - 1)) && (upTo (cuOk cs) cs.length 0 && (impl_areWithin.all 0 100 fc && (decide (0 ≤ x ∧ x ≤ 10000) && decide (0 ≤ y ∧ y ≤ 10000)))))))

/- Texts joined with a byte between them, as both sides write them. -/
def jn {α : Type} (f : α → List UInt8) (c : UInt8) (l : List α) : List UInt8 := Lib.join (l.map f) [c]
theorem jn_nil {α : Type} (f : α → List UInt8) (c : UInt8) : jn f c [] = [] := rfl
theorem jn_one {α : Type} (f : α → List UInt8) (c : UInt8) (x : α) : jn f c [x] = f x := Lib.join_one _ _
theorem jn_cons {α : Type} (f : α → List UInt8) (c : UInt8) (x : α) (l : List α) : jn f c (x :: l) = f x ++ (l.map (fun y => c :: f y)).flatten := by
  unfold jn
  rw [List.map_cons, Lib.join_cons]
  unfold Lib.joinTail
  rw [List.map_map]
  rfl
theorem jn_snoc {α : Type} (f : α → List UInt8) (c : UInt8) : ∀ (l : List α) (x : α), l ≠ [] → jn f c (l ++ [x]) = (jn f c l ++ [c]) ++ f x
  | [], x, h => absurd rfl h
  | y :: l, x, _ => by
    rw [List.cons_append, jn_cons, jn_cons, List.map_append, List.flatten_append]
    simp
theorem flat_len {α : Type} (g : α → List UInt8) (M : Nat) : ∀ l : List α, (∀ x ∈ l, (g x).length ≤ M) → (l.map g).flatten.length ≤ l.length * M
  | [], _ => by simp
  | x :: l, h => by
    have h1 := h x (by simp)
    have h2 := flat_len g M l (fun y hy => h y (by simp [hy]))
    rw [List.map_cons, List.flatten_cons, List.length_append, List.length_cons, Nat.succ_mul]
    omega
theorem jn_len {α : Type} (f : α → List UInt8) (c : UInt8) (M : Nat) : ∀ l : List α, (∀ x ∈ l, (f x).length ≤ M) → (jn f c l).length ≤ l.length * (M + 1)
  | [], _ => by simp [jn_nil]
  | x :: l, h => by
    have h1 := h x (by simp)
    have h2 := flat_len (fun y => c :: f y) (M + 1) l (fun y hy => by have := h y (by simp [hy]); rw [List.length_cons]; omega)
    rw [jn_cons, List.length_append, List.length_cons, Nat.succ_mul]
    omega
theorem jn_take {α : Type} (f : α → List UInt8) (c : UInt8) (l : List α) (i : Nat) (h : i < l.length) : jn f c (l.take (i + 1)) = if i = 0 then f l[i] else (jn f c (l.take i) ++ [c]) ++ f l[i] := by
  rw [List.take_add_one, List.getElem?_eq_getElem h]
  simp only [Option.toList_some]
  split
  · rename_i e
    subst e
    simp [jn_one]
  · exact jn_snoc f c _ _ (by
      intro e
      have := congrArg List.length e
      rw [List.length_take, List.length_nil] at this
      omega)
def I64s (l : List Int) : Prop := ∀ x ∈ l, -9223372036854775808 ≤ x ∧ x ≤ 9223372036854775807
theorem itoa_len {n : Int} (h : -9223372036854775808 ≤ n ∧ n ≤ 9223372036854775807) : (Lib.itoa n).length ≤ 21 := Lib.itoa_length_le n h.1 h.2
theorem jn_ints (c : UInt8) {l : List Int} (h : I64s l) (i : Nat) : (jn Lib.itoa c (l.take i)).length ≤ l.length * 22 := by
  have h1 := jn_len Lib.itoa c 21 (l.take i) (fun x hx => itoa_len (h x (List.mem_of_mem_take hx)))
  have h2 : (l.take i).length * (21 + 1) ≤ l.length * 22 := Nat.mul_le_mul_right _ (by rw [List.length_take]; omega)
  omega
/- Numbers in decimal with commas between them, as the reference writes them. -/
theorem specComma_l0 (l : List Int) (hl : l.length ≤ 1048576) (hw : I64s l) : ∀ (d k i : Nat), i + d = l.length → d + 31 < k → spec_l06Comma.l0 k l (tx (jn Lib.itoa 44 (l.take i))) i = some (tx (jn Lib.itoa 44 l)) := by
  intro d
  induction d with
  | zero =>
    intro k i hi hk
    obtain ⟨k, rfl⟩ : ∃ m, k = m + 1 := ⟨k - 1, by omega⟩
    simp only [spec_l06Comma.l0]
    rw [if_neg (by omega), List.take_of_length_le (by omega)]
  | succ d ih =>
    intro k i hi hk
    obtain ⟨k, rfl⟩ : ∃ m, k = m + 1 := ⟨k - 1, by omega⟩
    have hlt : i < l.length := by omega
    have hr := hw _ (List.getElem_mem hlt)
    have h1 := jn_ints 44 hw i
    have h2 := itoa_len hr
    have hz := ih k (i + 1) (by omega) (by omega)
    rw [jn_take Lib.itoa 44 l i hlt] at hz
    simp only [spec_l06Comma.l0]
    rw [if_pos (by omega), rd_at l i hlt]
    by_cases h0 : i = 0
    · rw [if_pos h0] at hz
      rw [if_neg (by omega), if_pos (by omega), specDec_is k _ hr (by omega), bind_some_, w64s i (by omega)]
      unfold dd
      rw [tx_size, tx_size, if_pos (by omega), tx_app]
      subst h0
      exact hz
    · rw [if_neg h0] at hz
      rw [if_pos (by omega), tx_size, if_pos (by omega), if_pos (by omega), specDec_is k _ hr (by omega), bind_some_, w64s i (by omega), lit1, tx_app]
      unfold dd
      rw [tx_size, tx_size, if_pos (by rw [List.length_append, List.length_singleton]; omega), tx_app]
      exact hz
theorem specComma_is (k : Nat) (l : List Int) (hl : l.length ≤ 1048576) (hw : I64s l) (hk : l.length + 31 < k) : spec_l06Comma.f k l = some (tx (jn Lib.itoa 44 l)) := by
  unfold spec_l06Comma.f
  exact specComma_l0 l hl hw l.length k 0 (by omega) hk

/- Numbers in decimal with a byte between them, as the program writes them. -/
/- Numbers in a range, as the program asks it of a list. -/
theorem areWithin2 (a b lo hi : Int) : impl_areWithin.all lo hi [a, b] = (decide (lo ≤ a ∧ a ≤ hi) && decide (lo ≤ b ∧ b ≤ hi)) := by
  simp [impl_areWithin.all]

/- A number lies in a range, as the program asks it. -/
theorem within_is (a b c : Int) : impl_within.f a b c = some (decide (b ≤ a ∧ a ≤ c)) := by
  unfold impl_within.f
  by_cases h : b ≤ a <;> simp [h]

/- Numbers in a range that rise, as the program asks it. -/
theorem implRises_loop (l : List Int) (n : Int) (hb : l.length ≤ 9223372036854775806) : ∀ (d k i : Nat), i + d = l.length → d < k → impl_isSet.l0 k l n l l.length i = some (upTo (riseOk l 0 (wrap64 (n - 1))) d i) := by
  intro d
  induction d with
  | zero =>
    intro k i hi' hk
    obtain ⟨k, rfl⟩ : ∃ m, k = m + 1 := ⟨k - 1, by omega⟩
    simp only [impl_isSet.l0]
    rw [if_neg (by omega)]
    rfl
  | succ d ih =>
    intro k i hi' hk
    obtain ⟨k, rfl⟩ : ∃ m, k = m + 1 := ⟨k - 1, by omega⟩
    have hz := ih k (i + 1) (by omega) (by omega)
    simp only [impl_isSet.l0, within_is, bind_some_, upTo, riseOk]
    rw [if_pos (by omega), if_pos (by omega), if_pos (by omega), w64s i (by omega), hz]
    by_cases h : i = 0
    · rw [if_neg (show ¬ (i : Int) > 0 by omega), ite_tt, decide_eq_true h, Bool.true_or, Bool.and_true]
    · have e : wrap64 ((i : Int) - 1) = ((i - 1 : Nat) : Int) := by rw [w64 _ (by omega) (by omega)]; omega
      rw [if_pos (show (i : Int) > 0 by omega), e, if_pos (show (0 : Int) ≤ ((i - 1 : Nat) : Int) by omega), if_pos (show ((i - 1 : Nat) : Int) < (l.length : Int) by omega), ite_ff, ite_tt, not_ge_dec, decide_eq_false h, Bool.false_or, Bool.and_assoc]
theorem implRises_is (k : Nat) (l : List Int) (n : Int) (hb : l.length ≤ 9223372036854775806) (hk : l.length < k) : impl_isSet.f k l n = some (rises l 0 (wrap64 (n - 1))) := by
  unfold impl_isSet.f rises
  exact implRises_loop l n hb l.length k 0 (by omega) hk

/- What the program asks of a head. -/
theorem implHead_l0 (cs : List S77) (fc st : List Int) (x y : Int) (hc : cs.length ≤ 1048576) (hb : fc.length ≤ 1048576) (hs : st.length ≤ 1048576) : ∀ (d k i : Nat), i + d = cs.length → d + st.length + 1 < k → impl_ValidHead.l0 k cs cs.length i cs fc st x y = some (upTo (cuOk cs) d i && (decide (1 ≤ (cs.length : Int) ∧ (cs.length : Int) ≤ 5) && (decide ((fc.length : Int) ≤ 60) && (impl_areWithin.all 0 100 fc && (decide ((st.length : Int) ≤ 8) && (rises st 0 (wrap64 ((fc.length : Int) - 1)) && (decide (0 ≤ x ∧ x ≤ 10000) && decide (0 ≤ y ∧ y ≤ 10000)))))))) := by
  intro d
  induction d with
  | zero =>
    intro k i hi' hk
    obtain ⟨k, rfl⟩ : ∃ m, k = m + 1 := ⟨k - 1, by omega⟩
    simp only [impl_ValidHead.l0, within_is, impl_areWithin.f, bind_some_, areWithin2]
    rw [if_neg (by omega), implRises_is k st _ (by omega) (by omega)]
    simp only [bind_some_, ite_tt, ite_pp, upTo, Bool.true_and, Bool.decide_eq_true]
  | succ d ih =>
    intro k i hi' hk
    obtain ⟨k, rfl⟩ : ∃ m, k = m + 1 := ⟨k - 1, by omega⟩
    have hz := ih k (i + 1) (by omega) (by omega)
    simp only [impl_ValidHead.l0, within_is, bind_some_]
    rw [if_pos (by omega), if_pos (by omega), if_pos (by omega), w64s i (by omega), hz, ite_tt, ite_tt]
    simp only [upTo, cuOk, Bool.and_assoc]
theorem implHead_is (k : Nat) (cs : List S77) (fc st : List Int) (x y : Int) (hc : cs.length ≤ 1048576) (hb : fc.length ≤ 1048576) (hs : st.length ≤ 1048576) (hk : cs.length + st.length + 3 < k) : impl_ValidHead.f k cs fc st x y = some (hdOk cs fc st x y) := by
  unfold impl_ValidHead.f
  have h0 := implHead_l0 cs fc st x y hc hb hs cs.length k 0 (by omega) (by omega)
  rw [show ((0 : Nat) : Int) = 0 by rfl] at h0
  rw [h0]
  unfold hdOk
  congr 1
  ac_rfl

/- A number lies in a range, as the reference asks it. -/
theorem in_is (a b c : Int) : spec_l00In.f a b c = some (decide (b ≤ a ∧ a ≤ c)) := by
  unfold spec_l00In.f
  by_cases h : b ≤ a <;> simp [h]

/- Numbers in a range that rise, as the reference asks it. -/
theorem specRises_loop (l : List Int) (lo hi : Int) (hb : l.length ≤ 9223372036854775806) : ∀ (d k i : Nat), i + d = l.length → d < k → spec_l00Rises.l0 k l lo hi i = some (upTo (riseOk l lo hi) d i) := by
  intro d
  induction d with
  | zero =>
    intro k i hi' hk
    obtain ⟨k, rfl⟩ : ∃ m, k = m + 1 := ⟨k - 1, by omega⟩
    simp only [spec_l00Rises.l0]
    rw [if_neg (by omega)]
    rfl
  | succ d ih =>
    intro k i hi' hk
    obtain ⟨k, rfl⟩ : ∃ m, k = m + 1 := ⟨k - 1, by omega⟩
    have hz := ih k (i + 1) (by omega) (by omega)
    simp only [spec_l00Rises.l0, in_is, bind_some_, upTo, riseOk]
    rw [if_pos (by omega), if_pos (by omega), w64s i (by omega), hz]
    by_cases h : i = 0
    · rw [if_neg (show ¬ (i : Int) > 0 by omega), ite_tt, decide_eq_true h, Bool.true_or, Bool.and_true]
    · have e : wrap64 ((i : Int) - 1) = ((i - 1 : Nat) : Int) := by rw [w64 _ (by omega) (by omega)]; omega
      rw [if_pos (show (i : Int) > 0 by omega), e, if_pos (show (0 : Int) ≤ ((i - 1 : Nat) : Int) by omega), if_pos (show ((i - 1 : Nat) : Int) < (l.length : Int) by omega), ite_ff, ite_tt, not_ge_dec, decide_eq_false h, Bool.false_or, Bool.and_assoc]
theorem specRises_is (k : Nat) (l : List Int) (lo hi : Int) (hb : l.length ≤ 9223372036854775806) (hk : l.length < k) : spec_l00Rises.f k l lo hi = some (rises l lo hi) := by
  unfold spec_l00Rises.f rises
  exact specRises_loop l lo hi hb l.length k 0 (by omega) hk

/- What the reference asks of a head. -/
theorem specHead_l1 (cs : List S77) (fc st : List Int) (x y : Int) (hb : fc.length ≤ 9223372036854775806) : ∀ (d k i : Nat), i + d = fc.length → d < k → spec_l08Is.l1 k i cs fc st x y = some (impl_areWithin.all 0 100 (fc.drop i) && (decide (0 ≤ x ∧ x ≤ 10000) && decide (0 ≤ y ∧ y ≤ 10000))) := by
  intro d
  induction d with
  | zero =>
    intro k i hi' hk
    obtain ⟨k, rfl⟩ : ∃ m, k = m + 1 := ⟨k - 1, by omega⟩
    simp only [spec_l08Is.l1, in_is, bind_some_]
    rw [if_neg (by omega), List.drop_of_length_le (by omega), ite_tt]
    rfl
  | succ d ih =>
    intro k i hi' hk
    obtain ⟨k, rfl⟩ : ∃ m, k = m + 1 := ⟨k - 1, by omega⟩
    have hz := ih k (i + 1) (by omega) (by omega)
    rw [drop_at fc i (by omega)]
    simp only [spec_l08Is.l1, in_is, bind_some_]
    rw [if_pos (by omega), if_pos (by omega), w64s i (by omega), hz, ite_tt]
    simp only [impl_areWithin.all, List.all_cons, Bool.and_assoc]
theorem specHead_l0 (cs : List S77) (fc st : List Int) (x y : Int) (hc : cs.length ≤ 9223372036854775806) (hb : fc.length ≤ 9223372036854775806) : ∀ (d k i : Nat), i + d = cs.length → d + fc.length + 1 < k → spec_l08Is.l0 k i cs fc st x y = some (upTo (cuOk cs) d i && (impl_areWithin.all 0 100 fc && (decide (0 ≤ x ∧ x ≤ 10000) && decide (0 ≤ y ∧ y ≤ 10000)))) := by
  intro d
  induction d with
  | zero =>
    intro k i hi' hk
    obtain ⟨k, rfl⟩ : ∃ m, k = m + 1 := ⟨k - 1, by omega⟩
    have h1 := specHead_l1 cs fc st x y hb fc.length k 0 (by omega) (by omega)
    rw [List.drop_zero] at h1
    simp only [spec_l08Is.l0]
    rw [if_neg (by omega)]
    exact h1
  | succ d ih =>
    intro k i hi' hk
    obtain ⟨k, rfl⟩ : ∃ m, k = m + 1 := ⟨k - 1, by omega⟩
    have hz := ih k (i + 1) (by omega) (by omega)
    simp only [spec_l08Is.l0, in_is, bind_some_]
    rw [if_pos (by omega), if_pos (by omega), w64s i (by omega), hz, ite_tt, ite_tt]
    simp only [upTo, cuOk, Bool.and_assoc]
theorem specIs_is (k : Nat) (cs : List S77) (fc st : List Int) (x y : Int) (hc : cs.length ≤ 1048576) (hb : fc.length ≤ 1048576) (hs : st.length ≤ 1048576) (hk : cs.length + fc.length + st.length + 3 < k) : spec_l08Is.f k cs fc st x y = some (hdOk cs fc st x y) := by
  obtain ⟨k, rfl⟩ : ∃ m, k = m + 1 := ⟨k - 1, by omega⟩
  have h0 := specHead_l0 cs fc st x y (by omega) (by omega) cs.length k 0 (by omega) (by omega)
  rw [show ((0 : Nat) : Int) = 0 by rfl] at h0
  unfold spec_l08Is.f hdOk
  rw [in_is, bind_some_, specRises_is (k + 1) st _ _ (by omega) (by omega), bind_some_]
  simp only [spec_l08Is.j0, h0, if_true]
  generalize upTo (cuOk cs) cs.length 0 = b1
  generalize impl_areWithin.all 0 100 fc = b2
  generalize rises st 0 (wrap64 ((fc.length : Int) - 1)) = b3
  by_cases h1 : (1 ≤ (cs.length : Int) ∧ (cs.length : Int) ≤ 5)
  · by_cases h2 : (fc.length : Int) > 60
    · rw [if_pos (decide_eq_true h1), if_pos h2, decide_eq_false (show ¬ (fc.length : Int) ≤ 60 by omega)]
      simp
    · rw [if_pos (decide_eq_true h1), if_neg h2, decide_eq_true (show (fc.length : Int) ≤ 60 by omega), decide_eq_true h1]
      by_cases h3 : (st.length : Int) > 8
      · rw [if_pos h3, decide_eq_false (show ¬ (st.length : Int) ≤ 8 by omega)]
        simp
      · rw [if_neg h3, decide_eq_true (show (st.length : Int) ≤ 8 by omega)]
        cases b3 <;> simp
  · rw [if_neg (by simpa using h1), decide_eq_false h1]
    simp

/- The text of a head, as both sides write it. -/
/- What the numbers of a valid head are at most. -/
theorem rises_rng {l : List Int} {lo hi : Int} (h : rises l lo hi = true) : ∀ c ∈ l, lo ≤ c ∧ c ≤ hi := by
  intro c hc
  obtain ⟨i, hi2, e⟩ := List.getElem_of_mem hc
  unfold rises at h
  rw [upTo_iff] at h
  have := h i (by omega) (by omega)
  unfold riseOk at this
  simp only [Bool.and_eq_true, decide_eq_true_eq] at this
  rw [rd_at l i hi2, e] at this
  exact this.1
structure HdV (cs : List S77) (fc st : List Int) (x y : Int) : Prop where
  cn : 1 ≤ cs.length ∧ cs.length ≤ 5
  fn : fc.length ≤ 60
  sn : st.length ≤ 8
  cv : ∀ c ∈ cs, (1 ≤ c.f0 ∧ c.f0 ≤ 100) ∧ 1 ≤ c.f1 ∧ c.f1 ≤ 1000000
  fv : ∀ v ∈ fc, 0 ≤ v ∧ v ≤ 100
  sv : ∀ v ∈ st, 0 ≤ v ∧ v ≤ 60
  xv : 0 ≤ x ∧ x ≤ 10000
  yv : 0 ≤ y ∧ y ≤ 10000
theorem hdOk_vals {cs : List S77} {fc st : List Int} {x y : Int} (h : hdOk cs fc st x y = true) : HdV cs fc st x y := by
  unfold hdOk at h
  simp only [Bool.and_eq_true, decide_eq_true_eq] at h
  obtain ⟨h1, h2, h3, h4, h5, h6, h7, h8⟩ := h
  refine ⟨by omega, by omega, by omega, fun c hc => ?_, fun v hv => ?_, fun v hv => ?_, h7, h8⟩
  · obtain ⟨i, hi, e⟩ := List.getElem_of_mem hc
    rw [upTo_iff] at h5
    have := h5 i (by omega) (by omega)
    unfold cuOk at this
    simp only [Bool.and_eq_true, decide_eq_true_eq] at this
    rw [rdCutter_at cs i hi, e] at this
    exact this
  · unfold impl_areWithin.all at h6
    rw [List.all_eq_true] at h6
    have := h6 v hv
    simpa using this
  · have := rises_rng h4 v hv
    rw [w64 _ (by omega) (by omega)] at this
    omega
/- A number is in a list, as the program asks it. -/
theorem implIndex_loop (l : List Int) (n : Int) (hb : l.length ≤ 9223372036854775806) : ∀ (d k i : Nat), i + d = l.length → d < k → ∃ r, slices_Index_int64_int64.l0 k l n l.length i = some r ∧ (decide (r ≥ 0) = decide (n ∈ l.drop i)) := by
  intro d
  induction d with
  | zero =>
    intro k i hi hk
    obtain ⟨k, rfl⟩ : ∃ m, k = m + 1 := ⟨k - 1, by omega⟩
    simp only [slices_Index_int64_int64.l0]
    rw [if_neg (by omega), List.drop_of_length_le (by omega)]
    exact ⟨_, rfl, by simp⟩
  | succ d ih =>
    intro k i hi hk
    obtain ⟨k, rfl⟩ : ∃ m, k = m + 1 := ⟨k - 1, by omega⟩
    simp only [slices_Index_int64_int64.l0]
    rw [if_pos (by omega), if_pos (by omega), if_pos (by omega), w64s i (by omega), drop_at l i (by omega)]
    by_cases h : n = rd l i
    · rw [if_pos h]
      exact ⟨_, rfl, by simp [h]⟩
    · rw [if_neg h]
      obtain ⟨r, hr, hd⟩ := ih k (i + 1) (by omega) (by omega)
      refine ⟨r, hr, ?_⟩
      rw [hd]
      simp [h]
theorem implContains_is (k : Nat) (l : List Int) (n : Int) (hb : l.length ≤ 9223372036854775806) (hk : l.length < k) : slices_Contains_int64_int64.f k l n = some (decide (n ∈ l)) := by
  unfold slices_Contains_int64_int64.f slices_Index_int64_int64.f
  obtain ⟨r, hr, hd⟩ := implIndex_loop l n hb l.length k 0 (by omega) hk
  rw [show ((0 : Nat) : Int) = 0 from rfl] at hr
  rw [hr, bind_some_, hd, List.drop_zero]

/- What is asked of a plan. -/
def stopOk (n : Nat) (st : List Int) (p : List S66) (i : Nat) : Bool :=
  decide ((rd_T66 p (i : Int)).f0 ∈ st) && (!decide (((rd_T66 p (i : Int)).f1.length : Int) = 0) && (rises (rd_T66 p (i : Int)).f1 0 (wrap64 ((n : Int) - 1)) && (decide (i = 0) || decide ((rd_T66 p ((i - 1 : Nat) : Int)).f0 < (rd_T66 p (i : Int)).f0))))
def planOk (n : Nat) (st : List Int) (p : List S66) : Bool := upTo (stopOk n st p) p.length 0
theorem ite_fc (p : Prop) [Decidable p] (o : Option Bool) (b : Bool) (h : o = some b) : (if p then some false else o) = some (!decide p && b) := by by_cases hp : p <;> simp [hp, h]
theorem ite_tc (c : Bool) (o : Option Bool) (b : Bool) (h : o = some b) : (if c = true then o else some false) = some (c && b) := by cases c <;> simp [h]

/- What is asked of a plan, as the program asks it. -/
theorem implPlan_l0 (cs : List S77) (fc st : List Int) (x y : Int) (p : List S66) (hc : cs.length ≤ 1048576) (hs : st.length ≤ 1048576) (hp : shortS p) : ∀ (d k i : Nat), i + d = p.length → d + 1048577 < k → impl_IsPlan.l0 k p p p.length i cs fc st x y = some (upTo (stopOk cs.length st p) d i) := by
  intro d
  have hb := hp.1
  induction d with
  | zero =>
    intro k i hi hk
    obtain ⟨k, rfl⟩ : ∃ m, k = m + 1 := ⟨k - 1, by omega⟩
    simp only [impl_IsPlan.l0]
    rw [if_neg (by omega)]
    rfl
  | succ d ih =>
    intro k i hi hk
    obtain ⟨k, rfl⟩ : ∃ m, k = m + 1 := ⟨k - 1, by omega⟩
    have hz := ih k (i + 1) (by omega) (by omega)
    have h1 := shortS_at hp i (by omega)
    simp only [impl_IsPlan.l0]
    rw [if_pos (by omega), if_pos (by omega), if_pos (by omega), implContains_is k st _ (by omega) (by omega), implRises_is k _ _ (by omega) (by omega)]
    simp only [bind_some_]
    rw [w64s i (by omega)]
    by_cases h : i = 0
    · rw [if_neg (show ¬ (i : Int) > 0 by omega)]
      have hrest := ite_tc (decide ((rd_T66 p (i : Int)).f0 ∈ st)) _ _ (ite_fc (((rd_T66 p (i : Int)).f1.length : Int) = 0) _ _ (ite_tc (rises (rd_T66 p (i : Int)).f1 0 (wrap64 ((cs.length : Int) - 1))) _ _ hz))
      rw [hrest]
      simp only [upTo, stopOk]
      simp [h, Bool.and_assoc]
    · have e : wrap64 ((i : Int) - 1) = ((i - 1 : Nat) : Int) := by rw [w64 _ (by omega) (by omega)]; omega
      rw [if_pos (show (i : Int) > 0 by omega), e, if_pos (show (0 : Int) ≤ ((i - 1 : Nat) : Int) by omega), if_pos (show ((i - 1 : Nat) : Int) < (p.length : Int) by omega)]
      have hrest := ite_tc (decide ((rd_T66 p (i : Int)).f0 ∈ st)) _ _ (ite_fc (((rd_T66 p (i : Int)).f1.length : Int) = 0) _ _ (ite_tc (rises (rd_T66 p (i : Int)).f1 0 (wrap64 ((cs.length : Int) - 1))) _ _ (ite_fc ((rd_T66 p ((i - 1 : Nat) : Int)).f0 ≥ (rd_T66 p (i : Int)).f0) _ _ hz)))
      rw [hrest, not_ge_dec]
      simp only [upTo, stopOk]
      rw [decide_eq_false h, Bool.false_or]
      simp only [Bool.and_assoc]
theorem implIsPlan_is (k : Nat) (cs : List S77) (fc st : List Int) (x y : Int) (p : List S66) (hc : cs.length ≤ 1048576) (hb : fc.length ≤ 1048576) (hs : st.length ≤ 1048576) (hp : shortS p) (hk : cs.length + fc.length + st.length + p.length + 1048580 < k) : impl_IsPlan.f k cs fc st x y p = some (hdOk cs fc st x y && planOk cs.length st p) := by
  unfold impl_IsPlan.f planOk
  rw [implHead_is k cs fc st x y hc hb hs (by omega), bind_some_]
  exact ite_tc _ _ _ (implPlan_l0 cs fc st x y p hc hs hp p.length k 0 (by omega) (by omega))

/- A text in the parts between the places of a byte. -/
def splitL (c : UInt8) : List UInt8 → List (List UInt8)
  | [] => [[]]
  | b :: l => if b = c then [] :: splitL c l else match splitL c l with
    | [] => [[b]]
    | p :: ps => (b :: p) :: ps
theorem splitL_ne (c : UInt8) : ∀ s, splitL c s ≠ []
  | [] => by simp [splitL]
  | b :: l => by
    simp only [splitL]
    split
    · simp
    · split <;> simp
theorem splitL_one (c : UInt8) : ∀ p : List UInt8, c ∉ p → splitL c p = [p]
  | [], _ => rfl
  | b :: p, h => by
    simp only [splitL]
    rw [if_neg (fun e => h (by simp [e])), splitL_one c p (fun e => h (by simp [e]))]
theorem splitL_app (c : UInt8) (r : List UInt8) : ∀ p : List UInt8, c ∉ p → splitL c (p ++ c :: r) = p :: splitL c r
  | [], _ => by
    rw [List.nil_append]
    simp only [splitL]
    rw [if_pos trivial]
  | b :: p, h => by
    rw [List.cons_append]
    simp only [splitL]
    rw [if_neg (fun e => h (by simp [e])), splitL_app c r p (fun e => h (by simp [e]))]
theorem splitL_cons (c : UInt8) (s : List UInt8) : ∃ p ps, splitL c s = p :: ps := by
  cases h : splitL c s with
  | nil => exact absurd h (splitL_ne c s)
  | cons p ps => exact ⟨p, ps, rfl⟩
theorem splitL_join (c : UInt8) : ∀ s : List UInt8, jn (fun z => z) c (splitL c s) = s
  | [] => by simp [splitL, jn_one]
  | b :: l => by
    have ih := splitL_join c l
    obtain ⟨p, ps, e⟩ := splitL_cons c l
    simp only [splitL]
    rw [e] at ih ⊢
    split
    · rename_i h
      rw [jn_cons, List.map_cons, List.flatten_cons]
      rw [jn_cons] at ih
      rw [List.nil_append, List.cons_append, ih, h]
    · dsimp only
      rw [jn_cons] at ih ⊢
      rw [List.cons_append, ih]
theorem splitL_of (c : UInt8) : ∀ ps : List (List UInt8), ps ≠ [] → (∀ p ∈ ps, c ∉ p) → splitL c (jn (fun z => z) c ps) = ps
  | [], h, _ => absurd rfl h
  | [p], _, h => by rw [jn_one]; exact splitL_one c p (h p (by simp))
  | p :: q :: ps, _, h => by
    have ih := splitL_of c (q :: ps) (by simp) (fun z hz => h z (List.mem_cons_of_mem _ hz))
    rw [jn_cons, List.map_cons, List.flatten_cons, List.cons_append, splitL_app c _ p (h p (by simp))]
    rw [jn_cons] at ih
    rw [ih]
theorem splitL_len (c : UInt8) : ∀ s : List UInt8, (splitL c s).length ≤ s.length + 1 ∧ ∀ p ∈ splitL c s, p.length ≤ s.length
  | [] => by simp [splitL]
  | b :: l => by
    have ih := splitL_len c l
    obtain ⟨q, qs, e⟩ := splitL_cons c l
    simp only [splitL]
    rw [e] at ih ⊢
    simp only [List.length_cons] at ih ⊢
    have hq := ih.2 q (by simp)
    split
    · refine ⟨by simp only [List.length_cons]; omega, fun p hp => ?_⟩
      rcases List.mem_cons.mp hp with e2 | e2
      · rw [e2]; simp
      · have := ih.2 p e2; omega
    · refine ⟨by simp only [List.length_cons]; omega, fun p hp => ?_⟩
      rcases List.mem_cons.mp hp with e2 | e2
      · rw [e2, List.length_cons]; omega
      · have := ih.2 p (by simp [e2]); omega
theorem mem_split (c : UInt8) : ∀ s : List UInt8, c ∈ s → ∃ p r, s = p ++ c :: r ∧ c ∉ p
  | [], h => by simp at h
  | b :: l, h => by
    by_cases e : b = c
    · exact ⟨[], l, by rw [e]; rfl, by simp⟩
    · obtain ⟨p, r, e1, e2⟩ := mem_split c l (by rcases List.mem_cons.mp h with z | z; exact absurd z.symm e; exact z)
      refine ⟨b :: p, r, by rw [e1]; rfl, fun hc => ?_⟩
      rcases List.mem_cons.mp hc with z | z
      · exact e z.symm
      · exact e2 z
theorem idx_none (c : UInt8) : ∀ s : List UInt8, c ∉ s → Lib.index s [c] = -1
  | [], _ => rfl
  | b :: l, h => by
    have hb : ¬ c = b := fun e => h (by simp [e])
    have h2 : [c].isPrefixOf (b :: l) = false := by
      simp only [List.isPrefixOf]
      rw [beq_eq_false_iff_ne.mpr hb, Bool.false_and]
    unfold Lib.index
    rw [h2, idx_none c l (fun e => h (by simp [e])), if_neg (by simp), if_pos (by simp)]
theorem splitK_is (c : UInt8) : ∀ (n : Nat) (s : List UInt8), s.length ≤ n → Lib.splitK [c] 0 (Lib.count s [c]) s = splitL c s := by
  intro n
  induction n with
  | zero =>
    intro s hs
    have : s = [] := List.length_eq_zero_iff.mp (by omega)
    subst this
    rw [Lib.count_miss (idx_none c [] (by simp))]
    rfl
  | succ n ih =>
    intro s hs
    by_cases h : c ∈ s
    · obtain ⟨p, r, e, hp⟩ := mem_split c s h
      have hi := idx_app c [] r p hp
      rw [show p ++ ((c :: []) ++ r) = s by rw [e]; rfl] at hi
      have hd : s.drop (p.length + [c].length) = r := by
        rw [e, List.length_singleton, show p ++ c :: r = (p ++ [c]) ++ r by simp, show p.length + 1 = (p ++ [c]).length by simp, List.drop_left]
      have hl : r.length ≤ n := by
        rw [e] at hs
        simp only [List.length_append, List.length_cons] at hs
        omega
      rw [Lib.count_hit (by simp) hi, hd, Nat.add_comm 1]
      unfold Lib.splitK
      rw [hi, if_neg (by simp), Int.toNat_natCast, hd, ih r hl, e, splitL_app c r p hp]
      simp
    · rw [Lib.count_miss (idx_none c s h), splitL_one c s h]
      rfl

/- The library's split, as a list of texts. -/
theorem split_is (c : UInt8) (s : List UInt8) (hs : s.length < 4294967281) : strings_Split.f (tx s) (tx [c]) = some ((splitL c s).map tx) := by
  unfold strings_Split.f
  rw [tx_size, tx_size, if_pos ⟨hs, by simp⟩]
  congr 1
  have h := Lib.splitB_data (tx [c]) 0 (Lib.countB (tx s) (tx [c])) (tx s)
  rw [tx_data, tx_data, show Lib.countB (tx s) (tx [c]) = Lib.count (tx s).data.toList (tx [c]).data.toList from rfl, tx_data, tx_data, splitK_is c s.length s (Nat.le_refl _)] at h
  rw [← h, List.map_map, show Lib.countB (tx s) (tx [c]) = Lib.count (tx s).data.toList (tx [c]).data.toList from rfl, tx_data, tx_data]
  exact ((List.map_congr_left (fun z _ => tx_of z)).trans (List.map_id _)).symm

/- The number with a text: what the library's parse and print say together. -/
theorem tx_toList (l : List UInt8) : (tx l).toList = l := by
  rw [ByteArray.toList_eq]
  exact tx_data l
theorem dec_digits : ∀ (F m : Nat), m < F → ∀ c ∈ Lib.decDigits m, 48 ≤ c.toNat ∧ c.toNat ≤ 57 := by
  intro F
  induction F with
  | zero => intro m h; omega
  | succ F ih =>
    intro m hm c hc
    have hlt := Nat.mod_lt m (show 0 < 10 by decide)
    have hd : ∀ c ∈ [UInt8.ofNat (48 + m % 10)], 48 ≤ c.toNat ∧ c.toNat ≤ 57 := fun c hc => by
      rw [List.mem_singleton.mp hc, UInt8.toNat_ofNat']
      omega
    by_cases h : m < 10
    · rw [decDigits_low h] at hc
      exact hd c hc
    · rw [decDigits_more h] at hc
      rcases List.mem_append.mp hc with e | e
      · exact ih (m / 10) (by omega) c e
      · exact hd c e
theorem dec_ne (m : Nat) : Lib.decDigits m ≠ [] := by
  by_cases h : m < 10
  · rw [decDigits_low h]; simp
  · rw [decDigits_more h]; simp
theorem parse_dd : ∀ (F m : Nat), m < F → m ≤ 18446744073709551615 → ∀ r, Lib.parseUintM 18446744073709551615 0 (Lib.decDigits m ++ r) = Lib.parseUintM 18446744073709551615 m r := by
  intro F
  induction F with
  | zero => intro m h; omega
  | succ F ih =>
    intro m hm hb r
    have hlt := Nat.mod_lt m (show 0 < 10 by decide)
    have hd : (UInt8.ofNat (48 + m % 10)).toNat = 48 + m % 10 := by rw [UInt8.toNat_ofNat']; omega
    by_cases h : m < 10
    · rw [decDigits_low h, List.singleton_append]
      simp only [Lib.parseUintM]
      rw [hd, if_pos (by omega), if_neg (by omega), if_neg (by omega), show 0 * 10 + (48 + m % 10 - 48) = m by omega]
    · rw [decDigits_more h, List.append_assoc, ih (m / 10) (by omega) (by omega), List.singleton_append]
      simp only [Lib.parseUintM]
      rw [hd, if_pos (by omega), if_neg (by omega), if_neg (by omega), show m / 10 * 10 + (48 + m % 10 - 48) = m by omega]
theorem parse_mag (m : Nat) (hb : m ≤ 18446744073709551615) : Lib.parseUintB 64 (Lib.decDigits m) = .ok m := by
  unfold Lib.parseUintB
  rw [if_neg (dec_ne m), show 2 ^ 64 - 1 = 18446744073709551615 from rfl]
  have := parse_dd (m + 1) m (by omega) hb []
  rw [List.append_nil] at this
  rw [this]
  rfl
theorem parse_itoa (n : Int) (hn : -9223372036854775808 ≤ n ∧ n ≤ 9223372036854775807) : Lib.parseIntB 64 (Lib.itoa n) = .ok n := by
  unfold Lib.itoa
  by_cases h : n < 0
  · rw [if_pos h]
    unfold Lib.parseIntB
    have e45 : (45 : UInt8).toNat = 45 := rfl
    simp only [e45]
    rw [if_pos (Or.inr trivial), parse_mag _ (by omega)]
    simp only [show (2 ^ (64 - 1) : Nat) = 9223372036854775808 from rfl]
    rw [if_neg (by simp), if_neg (by omega), if_pos trivial]
    congr 1
    omega
  · rw [if_neg h]
    have hp := parse_mag n.toNat (by omega)
    cases hl : Lib.decDigits n.toNat with
    | nil => exact absurd hl (dec_ne _)
    | cons c r =>
      have hc := dec_digits (n.toNat + 1) n.toNat (by omega) c (by rw [hl]; simp)
      rw [hl] at hp
      unfold Lib.parseIntB
      dsimp only
      rw [if_neg (by omega), hp]
      simp only [show (2 ^ (64 - 1) : Nat) = 9223372036854775808 from rfl]
      rw [if_neg (by omega), if_neg (by omega), if_neg (by omega)]
      congr 1
      omega
def decOf (s : List UInt8) : Option Int := match Lib.parseIntB 64 s with
  | .ok v => if Lib.itoa v = s then some v else none
  | _ => none
theorem decOf_itoa (n : Int) (hn : -9223372036854775808 ≤ n ∧ n ≤ 9223372036854775807) : decOf (Lib.itoa n) = some n := by
  unfold decOf
  rw [parse_itoa n hn]
  simp
theorem decOf_some {s : List UInt8} {n : Int} (h : decOf s = some n) : Lib.itoa n = s ∧ -9223372036854775808 ≤ n ∧ n ≤ 9223372036854775807 := by
  unfold decOf at h
  cases hp : Lib.parseIntB 64 s with
  | ok v =>
    rw [hp] at h
    dsimp only at h
    have hb := Lib.parseIntB_bounds (B := 64) hp
    rw [show ((2 ^ (64 - 1) : Nat) : Int) = 9223372036854775808 from rfl] at hb
    split at h
    · rename_i e
      obtain rfl := Option.some.inj h
      exact ⟨e, by omega⟩
    · cases h
  | range => rw [hp] at h; cases h
  | _ => rw [hp] at h; cases h
def valIn (lo hi : Int) (s : List UInt8) : Int × Bool := match decOf s with
  | some v => if lo ≤ v ∧ v ≤ hi then (v, true) else (0, false)
  | none => (0, false)
theorem valIn_itoa {lo hi n : Int} (hn : -9223372036854775808 ≤ n ∧ n ≤ 9223372036854775807) (h : lo ≤ n ∧ n ≤ hi) : valIn lo hi (Lib.itoa n) = (n, true) := by
  unfold valIn
  rw [decOf_itoa n hn]
  dsimp only
  rw [if_pos h]
theorem valIn_true {lo hi : Int} {s : List UInt8} (h : (valIn lo hi s).2 = true) : Lib.itoa (valIn lo hi s).1 = s ∧ (-9223372036854775808 ≤ (valIn lo hi s).1 ∧ (valIn lo hi s).1 ≤ 9223372036854775807) ∧ lo ≤ (valIn lo hi s).1 ∧ (valIn lo hi s).1 ≤ hi := by
  unfold valIn at h ⊢
  cases hd : decOf s with
  | none => rw [hd] at h; cases h
  | some v =>
    rw [hd] at h
    have := decOf_some hd
    dsimp only at h ⊢
    split at h
    · rename_i hb
      rw [if_pos hb]
      exact ⟨this.1, this.2, hb⟩
    · cases h

/- The numbers of a text, as the reference reads them, plainly. -/
def isDg (c : UInt8) : Bool := decide (48 ≤ c.toNat ∧ c.toNat ≤ 57)
def takeD : Nat → List UInt8 → Int → Int × List UInt8
  | 0, s, a => (a, s)
  | _ + 1, [], a => (a, [])
  | n + 1, c :: r, a => if isDg c = true then takeD n r (wrap64 (wrap64 (10 * a) + (((c.toNat : Int) - 48) % 256))) else (a, c :: r)
theorem takeD_len : ∀ (n : Nat) (s : List UInt8) (a : Int), (takeD n s a).2.length ≤ s.length
  | 0, s, a => Nat.le_refl _
  | n + 1, [], a => Nat.le_refl _
  | n + 1, c :: r, a => by
    simp only [takeD]
    split
    · have := takeD_len n r (wrap64 (wrap64 (10 * a) + (((c.toNat : Int) - 48) % 256)))
      rw [List.length_cons]
      omega
    · exact Nat.le_refl _
def tok (c : UInt8) (r : List UInt8) : Int := if isDg c = true then 1 else if c = 45 then (match r with | [] => 0 | d :: _ => if isDg d = true then -1 else 0) else 0
def nums : Nat → List UInt8 → List Int → List Int
  | 0, _, out => out
  | _ + 1, [], out => out
  | F + 1, c :: r, out => if tok c r = 1 then nums F (takeD 8 (c :: r) 0).2 (out ++ [wrap64 (1 * (takeD 8 (c :: r) 0).1)]) else if tok c r = -1 then nums F (takeD 8 r 0).2 (out ++ [wrap64 (-1 * (takeD 8 r 0).1)]) else nums F r out
theorem nums_fuel : ∀ (F G : Nat) (s : List UInt8) (out : List Int), s.length < F → s.length < G → nums F s out = nums G s out
  | 0, _, _, _, h, _ => by omega
  | _ + 1, 0, _, _, _, h => by omega
  | F + 1, G + 1, [], out, _, _ => rfl
  | F + 1, G + 1, c :: r, out, h1, h2 => by
    simp only [List.length_cons] at h1 h2
    simp only [nums]
    split
    · rename_i ht
      have hd : isDg c = true := by
        unfold tok at ht
        split at ht
        · assumption
        · split at ht
          · split at ht
            · omega
            · split at ht <;> omega
          · omega
      have e : takeD 8 (c :: r) 0 = takeD 7 r (wrap64 (wrap64 (10 * 0) + (((c.toNat : Int) - 48) % 256))) := by
        simp only [takeD]
        rw [if_pos hd]
      have := takeD_len 7 r (wrap64 (wrap64 (10 * 0) + (((c.toNat : Int) - 48) % 256)))
      rw [e]
      exact nums_fuel F G _ _ (by omega) (by omega)
    · split
      · have := takeD_len 8 r 0
        exact nums_fuel F G _ _ (by omega) (by omega)
      · exact nums_fuel F G r out (by omega) (by omega)
def numsOf (s : List UInt8) (out : List Int) : List Int := nums (s.length + 1) s out
theorem numsOf_nil (out : List Int) : numsOf [] out = out := rfl
theorem numsOf_skip (c : UInt8) (r : List UInt8) (out : List Int) (h : tok c r = 0) : numsOf (c :: r) out = numsOf r out := by
  unfold numsOf
  rw [List.length_cons]
  simp only [nums]
  rw [if_neg (by omega), if_neg (by omega)]
def stopsDg : List UInt8 → Prop
  | [] => True
  | c :: _ => isDg c = false
theorem takeD_dec : ∀ (F m : Nat), m < F → m ≤ 99999999 → ∀ (n : Nat), (Lib.decDigits m).length ≤ n → ∀ r, takeD n (Lib.decDigits m ++ r) 0 = takeD (n - (Lib.decDigits m).length) r (m : Int) := by
  intro F
  induction F with
  | zero => intro m h; omega
  | succ F ih =>
    intro m hm hb n hn r
    have hlt := Nat.mod_lt m (show 0 < 10 by decide)
    have hd : (UInt8.ofNat (48 + m % 10)).toNat = 48 + m % 10 := by rw [UInt8.toNat_ofNat']; omega
    have hg : isDg (UInt8.ofNat (48 + m % 10)) = true := by unfold isDg; exact decide_eq_true (by omega)
    by_cases h : m < 10
    · rw [decDigits_low h] at hn ⊢
      rw [List.length_singleton] at hn ⊢
      obtain ⟨n, rfl⟩ : ∃ q, n = q + 1 := ⟨n - 1, by omega⟩
      rw [List.singleton_append]
      simp only [takeD]
      rw [if_pos hg, hd, w64 (10 * 0) (by omega) (by omega), w64 _ (by omega) (by omega), show (10 * 0 + (((48 + m % 10 : Nat) : Int) - 48) % 256) = (m : Int) by omega, Nat.add_sub_cancel]
    · rw [decDigits_more h] at hn ⊢
      rw [List.length_append, List.length_singleton] at hn ⊢
      rw [List.append_assoc, ih (m / 10) (by omega) (by omega) n (by omega), List.singleton_append]
      obtain ⟨q, e⟩ : ∃ q, n - (Lib.decDigits (m / 10)).length = q + 1 := ⟨n - (Lib.decDigits (m / 10)).length - 1, by omega⟩
      rw [show n - ((Lib.decDigits (m / 10)).length + 1) = q by omega, e]
      simp only [takeD]
      rw [if_pos hg, hd, w64 (10 * ((m / 10 : Nat) : Int)) (by omega) (by omega), w64 _ (by omega) (by omega), show (10 * ((m / 10 : Nat) : Int) + (((48 + m % 10 : Nat) : Int) - 48) % 256) = (m : Int) by omega]
theorem takeD_stop (q : Nat) (r : List UInt8) (a : Int) (h : stopsDg r) : takeD q r a = (a, r) := by
  cases q with
  | zero => rfl
  | succ q =>
    cases r with
    | nil => rfl
    | cons c r =>
      simp only [takeD]
      rw [if_neg (by rw [show isDg c = false from h]; simp)]
theorem nDig8 (m : Nat) (h : m ≤ 99999999) : (Lib.decDigits m).length ≤ 8 := by
  rw [Lib.decDigits_length]
  have : ∀ (d m : Nat), m < 10 ^ (d + 1) → Lib.nDigits m ≤ d + 1 := by
    intro d
    induction d with
    | zero => intro m h; rw [Lib.nDigits_small (by simpa using h)]; omega
    | succ d ih =>
      intro m h
      by_cases c : m < 10
      · rw [Lib.nDigits_small c]; omega
      · have := ih (m / 10) (by rw [Nat.pow_succ] at h; omega)
        rw [Lib.nDigits_big c]
        omega
  exact this 7 m (by omega)
theorem numsOf_int (n : Int) (hn : -99999999 ≤ n ∧ n ≤ 99999999) (r : List UInt8) (hr : stopsDg r) (out : List Int) : numsOf (Lib.itoa n ++ r) out = numsOf r (out ++ [n]) := by
  by_cases c : n < 0
  · obtain ⟨m, e⟩ : ∃ m : Nat, n = -(m : Int) := ⟨n.natAbs, by omega⟩
    have ei : Lib.itoa n = 45 :: Lib.decDigits m := by
      unfold Lib.itoa
      rw [if_pos c, show n.natAbs = m by omega]
    have ht := takeD_dec (m + 1) m (by omega) (by omega) 8 (nDig8 m (by omega)) r
    rw [takeD_stop _ r _ hr] at ht
    have hk : tok 45 (Lib.decDigits m ++ r) = -1 := by
      unfold tok
      rw [if_neg (by decide), if_pos rfl]
      cases hq : Lib.decDigits m with
      | nil => exact absurd hq (dec_ne m)
      | cons x t =>
        have := dec_digits (m + 1) m (by omega) x (by rw [hq]; simp)
        rw [List.cons_append]
        dsimp only
        rw [if_pos (by unfold isDg; exact decide_eq_true (by omega))]
    unfold numsOf
    rw [ei, List.cons_append, List.length_cons]
    simp only [nums]
    rw [hk, if_neg (by omega), if_pos rfl, ht]
    dsimp only
    rw [show wrap64 (-1 * (m : Int)) = n by rw [w64 _ (by omega) (by omega)]; omega]
    exact nums_fuel _ _ _ _ (by rw [List.length_append]; omega) (by omega)
  · obtain ⟨m, e⟩ : ∃ m : Nat, n = (m : Int) := ⟨n.toNat, by omega⟩
    have ei : Lib.itoa n = Lib.decDigits m := by
      unfold Lib.itoa
      rw [if_neg c, show n.toNat = m by omega]
    have ht := takeD_dec (m + 1) m (by omega) (by omega) 8 (nDig8 m (by omega)) r
    rw [takeD_stop _ r _ hr] at ht
    rw [ei]
    unfold numsOf
    cases hq : Lib.decDigits m with
    | nil => exact absurd hq (dec_ne m)
    | cons x t =>
      have hx := dec_digits (m + 1) m (by omega) x (by rw [hq]; simp)
      have hk : tok x (t ++ r) = 1 := by
        unfold tok
        rw [if_pos (by unfold isDg; exact decide_eq_true (by omega))]
      rw [hq, List.cons_append] at ht
      rw [List.cons_append, List.length_cons]
      simp only [nums]
      rw [hk, if_pos rfl, ht]
      dsimp only
      rw [show wrap64 (1 * (m : Int)) = n by rw [w64 _ (by omega) (by omega)]; omega]
      exact nums_fuel _ _ _ _ (by rw [List.length_append]; omega) (by omega)
theorem tok_sep (c : UInt8) (r : List UInt8) (h1 : isDg c = false) (h2 : c ≠ 45) : tok c r = 0 := by
  unfold tok
  rw [if_neg (by rw [h1]; simp), if_neg h2]
theorem jn_two {α : Type} (f : α → List UInt8) (c : UInt8) (x y : α) (l : List α) : jn f c (x :: y :: l) = f x ++ (c :: jn f c (y :: l)) := by
  rw [jn_cons, jn_cons, List.map_cons, List.flatten_cons, List.cons_append]
theorem numsOf_jn (c : UInt8) (h1 : isDg c = false) (h2 : c ≠ 45) (r : List UInt8) (hr : stopsDg r) : ∀ (l out : List Int), (∀ v ∈ l, -99999999 ≤ v ∧ v ≤ 99999999) → numsOf (jn Lib.itoa c l ++ r) out = numsOf r (out ++ l)
  | [], out, _ => by rw [jn_nil, List.nil_append, List.append_nil]
  | [x], out, h => by rw [jn_one, numsOf_int x (h x (by simp)) r hr]
  | x :: y :: l, out, h => by
    rw [jn_two, List.append_assoc, numsOf_int x (h x (by simp)) _ (by rw [List.cons_append]; exact h1), List.cons_append, numsOf_skip c _ _ (tok_sep c _ h1 h2), numsOf_jn c h1 h2 r hr (y :: l) _ (fun v hv => h v (List.mem_cons_of_mem _ hv))]
    simp

/- More of joined texts. -/
theorem jn_ge (c : UInt8) : ∀ ps : List (List UInt8), ∀ p ∈ ps, p.length + ps.length ≤ (jn (fun z => z) c ps).length + 1
  | [], p, h => by simp at h
  | [q], p, h => by rw [List.mem_singleton.mp h, jn_one]; simp
  | q :: q2 :: ps, p, h => by
    have ih := jn_ge c (q2 :: ps)
    rw [jn_two]
    simp only [List.length_append, List.length_cons] at ih ⊢
    rcases List.mem_cons.mp h with e | e
    · have := ih q2 (by simp)
      rw [e]
      omega
    · have := ih p e
      omega
theorem jn_no {α : Type} (f : α → List UInt8) (c d : UInt8) (hd : d ≠ c) : ∀ l : List α, (∀ x ∈ l, d ∉ f x) → d ∉ jn f c l
  | [], _ => by rw [jn_nil]; simp
  | [x], h => by rw [jn_one]; exact h x (by simp)
  | x :: y :: l, h => by
    rw [jn_two]
    intro hm
    rcases List.mem_append.mp hm with e | e
    · exact h x (by simp) e
    · rcases List.mem_cons.mp e with e2 | e2
      · exact hd e2
      · exact jn_no f c d hd (y :: l) (fun z hz => h z (List.mem_cons_of_mem _ hz)) e2

/- A number is in a list, as the reference asks it. -/
theorem specHas_loop (l : List Int) (n : Int) (hb : l.length ≤ 9223372036854775806) : ∀ (d k i : Nat), i + d = l.length → d < k → spec_l00Has.l0 k l n i = some (decide (n ∈ l.drop i)) := by
  intro d
  induction d with
  | zero =>
    intro k i hi hk
    obtain ⟨k, rfl⟩ : ∃ m, k = m + 1 := ⟨k - 1, by omega⟩
    simp only [spec_l00Has.l0]
    rw [if_neg (by omega), List.drop_of_length_le (by omega)]
    simp
  | succ d ih =>
    intro k i hi hk
    obtain ⟨k, rfl⟩ : ∃ m, k = m + 1 := ⟨k - 1, by omega⟩
    simp only [spec_l00Has.l0]
    rw [if_pos (by omega), if_pos (by omega), w64s i (by omega), ih k (i + 1) (by omega) (by omega), drop_at l i (by omega)]
    by_cases h : rd l i = n
    · rw [if_pos h]; simp [h]
    · rw [if_neg h]
      have h2 : ¬ n = rd l i := fun e => h e.symm
      simp [h2]
theorem specHas_is (k : Nat) (l : List Int) (n : Int) (hb : l.length ≤ 9223372036854775806) (hk : l.length < k) : spec_l00Has.f k l n = some (decide (n ∈ l)) := by
  unfold spec_l00Has.f
  have := specHas_loop l n hb l.length k 0 (by omega) hk
  simpa using this

/- What is asked of a plan, as the reference asks it. -/
theorem specPlan_l0 (cs : List S77) (fc st : List Int) (x y : Int) (p : List S66) (hc : cs.length ≤ 1048576) (hs : st.length ≤ 1048576) (hp : shortS p) : ∀ (d k i : Nat), i + d = p.length → d + 1048577 < k → spec_l08Plan.l0 k p i cs fc st x y = some (upTo (stopOk cs.length st p) d i) := by
  intro d
  have hb := hp.1
  induction d with
  | zero =>
    intro k i hi hk
    obtain ⟨k, rfl⟩ : ∃ m, k = m + 1 := ⟨k - 1, by omega⟩
    simp only [spec_l08Plan.l0]
    rw [if_neg (by omega)]
    rfl
  | succ d ih =>
    intro k i hi hk
    obtain ⟨k, rfl⟩ : ∃ m, k = m + 1 := ⟨k - 1, by omega⟩
    have hz := ih k (i + 1) (by omega) (by omega)
    have h1 := shortS_at hp i (by omega)
    have hrest := ite_tc (decide ((rd_T66 p (i : Int)).f0 ∈ st)) _ _ (ite_fc (((rd_T66 p (i : Int)).f1.length : Int) = 0) _ _ (ite_tc (rises (rd_T66 p (i : Int)).f1 0 (wrap64 ((cs.length : Int) - 1))) _ _ hz))
    simp only [spec_l08Plan.l0]
    rw [if_pos (by omega), specHas_is k st _ (by omega) (by omega), specRises_is k _ _ _ (by omega) (by omega)]
    simp only [bind_some_]
    rw [w64s i (by omega), if_pos (show (0 : Int) ≤ (i : Int) by omega)]
    by_cases h : i = 0
    · rw [if_neg (show ¬ (i : Int) > 0 by omega), if_pos (show (0 : Int) ≤ (i : Int) by omega), hrest]
      simp only [upTo, stopOk]
      simp [h, Bool.and_assoc]
    · have e : wrap64 ((i : Int) - 1) = ((i - 1 : Nat) : Int) := by rw [w64 _ (by omega) (by omega)]; omega
      rw [if_pos (show (i : Int) > 0 by omega), e, if_pos (show (0 : Int) ≤ ((i - 1 : Nat) : Int) by omega), if_pos (show ((i - 1 : Nat) : Int) < (p.length : Int) by omega), ite_fc _ _ _ hrest, not_ge_dec]
      simp only [upTo, stopOk]
      rw [decide_eq_false h, Bool.false_or]
      cases decide ((rd_T66 p ((i - 1 : Nat) : Int)).f0 < (rd_T66 p (i : Int)).f0) <;> simp [Bool.and_assoc]
theorem specPlan_is (k : Nat) (cs : List S77) (fc st : List Int) (x y : Int) (p : List S66) (hc : cs.length ≤ 1048576) (hs : st.length ≤ 1048576) (hp : shortS p) (hk : p.length + 1048577 < k) : spec_l08Plan.f k cs fc st x y p = some (planOk cs.length st p) := by
  unfold spec_l08Plan.f planOk
  exact specPlan_l0 cs fc st x y p hc hs hp p.length k 0 (by omega) hk


/- The text of a plan, as both sides write it. -/
def stopT (t : S66) : List UInt8 := (Lib.itoa t.f0 ++ [58]) ++ jn Lib.itoa 44 t.f1
def planT (p : List S66) : List UInt8 := jn stopT 59 p
def P64 (p : List S66) : Prop := ∀ t ∈ p, (-9223372036854775808 ≤ t.f0 ∧ t.f0 ≤ 9223372036854775807) ∧ t.f1.length ≤ 1048576 ∧ I64s t.f1
theorem stopT_len {t : S66} (h : (-9223372036854775808 ≤ t.f0 ∧ t.f0 ≤ 9223372036854775807) ∧ t.f1.length ≤ 1048576 ∧ I64s t.f1) : (stopT t).length ≤ 23100000 ∧ (jn Lib.itoa 44 t.f1).length ≤ 23068672 := by
  have h1 := itoa_len h.1
  have h2 := jn_ints 44 h.2.2 t.f1.length
  rw [List.take_of_length_le (Nat.le_refl _)] at h2
  have h3 := h.2.1
  unfold stopT
  simp only [List.length_append, List.length_singleton]
  omega
theorem jn_stops {p : List S66} (h : P64 p) (i : Nat) : (jn stopT 59 (p.take i)).length ≤ p.length * 23100001 := by
  have h1 := jn_len stopT 59 23100000 (p.take i) (fun x hx => (stopT_len (h x (List.mem_of_mem_take hx))).1)
  have h2 : (p.take i).length * (23100000 + 1) ≤ p.length * 23100001 := Nat.mul_le_mul_right _ (by rw [List.length_take]; omega)
  exact Nat.le_trans h1 h2
theorem specPlanT_l0 (p : List S66) (hp : p.length ≤ 1048576) (h : P64 p) (F : Nat) (hF : 1048640 ≤ F) : ∀ (d k i : Nat), i + d = p.length → d + F < k → spec_l08PlanText.l0 k p (tx (jn stopT 59 (p.take i))) i = some (tx (planT p)) := by
  intro d
  induction d with
  | zero =>
    intro k i hi hk
    obtain ⟨k, rfl⟩ : ∃ m, k = m + 1 := ⟨k - 1, by omega⟩
    simp only [spec_l08PlanText.l0]
    rw [if_neg (by omega), List.take_of_length_le (by omega)]
    rfl
  | succ d ih =>
    intro k i hi hk
    obtain ⟨k, rfl⟩ : ∃ m, k = m + 1 := ⟨k - 1, by omega⟩
    have hlt : i < p.length := by omega
    have hr := h _ (List.getElem_mem hlt)
    have a1 := itoa_len hr.1
    have a2 := (stopT_len hr).2
    have a3 := hr.2.1
    have a4 := jn_stops h i
    have hz := ih k (i + 1) (by omega) (by omega)
    rw [jn_take stopT 59 p i hlt] at hz
    simp only [spec_l08PlanText.l0]
    rw [if_pos (by omega), rdStop_at p i hlt]
    by_cases h0 : i = 0
    · rw [if_pos h0] at hz
      rw [if_neg (by omega), if_pos (by omega), specDec_is k _ hr.1 (by omega), bind_some_]
      unfold dd
      rw [tx_size, if_pos (by omega), specComma_is k _ (by omega) hr.2.2 (by omega), bind_some_, lit1, tx_app, tx_size, tx_size, if_pos (by simp only [List.length_append, List.length_singleton]; omega), tx_app, tx_size, tx_size, if_pos (by simp only [List.length_append, List.length_singleton]; omega), tx_app, w64s i (by omega)]
      subst h0
      exact hz
    · rw [if_neg h0] at hz
      rw [if_pos (by omega), tx_size, if_pos (by omega), if_pos (by omega), specDec_is k _ hr.1 (by omega), bind_some_]
      unfold dd
      rw [tx_size, if_pos (by omega), specComma_is k _ (by omega) hr.2.2 (by omega), bind_some_, lit1, lit1, tx_app, tx_app, tx_size, tx_size, if_pos (by simp only [List.length_append, List.length_singleton]; omega), tx_app, tx_size, tx_size, if_pos (by simp only [List.length_append, List.length_singleton]; omega), tx_app, w64s i (by omega)]
      exact hz
/- The program's number with a text. -/
theorem implReadIn_is (s : List UInt8) (lo hi : Int) (hs : s.length ≤ 281474976710656) : impl_readIn.f (tx s) lo hi = some (valIn lo hi s) := by
  unfold impl_readIn.f valIn decOf
  rw [tx_size, if_pos hs, tx_data, tx_toList]
  congr 1
  cases Lib.parseIntB 64 s with
  | ok v =>
    dsimp only
    rw [show (⟨(Lib.itoa v).toArray⟩ : ByteArray) = tx (Lib.itoa v) from rfl, tx_toList]
    by_cases h : Lib.itoa v = s
    · rw [if_pos h]
      dsimp only
      by_cases h2 : lo ≤ v ∧ v ≤ hi
      · rw [if_pos ⟨h, h2⟩, if_pos h2]
      · rw [if_neg (fun z => h2 z.2), if_neg h2]
    · rw [if_neg (fun z => h z.1), if_neg h]
  | range => rfl
  | _ => rfl
theorem implReadDecimal_is (s : List UInt8) (hs : s.length ≤ 281474976710656) : impl_ReadDecimal.f (tx s) = some (valIn (-1000000000) 1000000000 s) := by
  unfold impl_ReadDecimal.f
  rw [implReadIn_is s _ _ hs, bind_some_]

/- The numbers that stand in a text, as the program reads them. -/
def allGo (lo hi : Int) : List (List UInt8) → List Int → List Int × Bool
  | [], acc => (acc, true)
  | p :: ps, acc => if (valIn lo hi p).2 = true then allGo lo hi ps (acc ++ [(valIn lo hi p).1]) else ([], false)
theorem rdB_at (L : List (List UInt8)) (i : Nat) (h : i < L.length) : rdOf ByteArray.empty (L.map tx) (i : Int) = tx L[i] := by
  unfold rdOf
  rw [Int.toNat_natCast, List.getD_eq_getElem?_getD, List.getElem?_map, List.getElem?_eq_getElem h]
  rfl
theorem readAll_l0 (lo hi : Int) (L : List (List UInt8)) (hL : L.length ≤ 2000000) (hp : ∀ p ∈ L, p.length ≤ 281474976710656) : ∀ (d k i : Nat) (acc : List Int), i + d = L.length → d < k → acc.length ≤ i → impl_readAll.l0 k lo hi acc (L.map tx) (L.length : Int) i = some (allGo lo hi (L.drop i) acc) := by
  intro d
  induction d with
  | zero =>
    intro k i acc hi2 hk ha
    obtain ⟨k, rfl⟩ : ∃ m, k = m + 1 := ⟨k - 1, by omega⟩
    simp only [impl_readAll.l0]
    rw [if_neg (by omega), List.drop_of_length_le (by omega)]
    rfl
  | succ d ih =>
    intro k i acc hi2 hk ha
    obtain ⟨k, rfl⟩ : ∃ m, k = m + 1 := ⟨k - 1, by omega⟩
    have hlt : i < L.length := by omega
    simp only [impl_readAll.l0]
    rw [if_pos (by omega), if_pos (by omega), List.length_map, if_pos (by omega), rdB_at L i hlt, implReadIn_is _ lo hi (hp _ (List.getElem_mem hlt)), bind_some_, List.drop_eq_getElem_cons hlt]
    simp only [allGo]
    by_cases h : (valIn lo hi L[i]).2 = true
    · rw [if_pos h, if_pos h, if_pos (by omega), w64s i (by omega)]
      exact ih k (i + 1) _ (by omega) (by omega) (by rw [List.length_append, List.length_singleton]; omega)
    · rw [if_neg h, if_neg h]
theorem readAll_is (lo hi : Int) (c : UInt8) (s : List UInt8) (hs : s.length ≤ 1048576) (k : Nat) (hk : s.length + 10 < k) : impl_readAll.f k (tx s) (tx [c]) lo hi = some (allGo lo hi (splitL c s) []) := by
  have hl := splitL_len c s
  unfold impl_readAll.f
  rw [split_is c s (by omega), bind_some_, List.length_map]
  exact readAll_l0 lo hi (splitL c s) (by omega) (fun p hp => by have := hl.2 p hp; omega) (splitL c s).length k 0 [] (by omega) (by omega) (by simp)
theorem allGo_true (lo hi : Int) : ∀ (ps : List (List UInt8)) (acc : List Int), (allGo lo hi ps acc).2 = true → ∃ l, allGo lo hi ps acc = (acc ++ l, true) ∧ l.map Lib.itoa = ps ∧ ∀ v ∈ l, (-9223372036854775808 ≤ v ∧ v ≤ 9223372036854775807) ∧ lo ≤ v ∧ v ≤ hi
  | [], acc, _ => ⟨[], by rw [List.append_nil]; rfl, rfl, by simp⟩
  | p :: ps, acc, h => by
    simp only [allGo] at h ⊢
    by_cases hv : (valIn lo hi p).2 = true
    · rw [if_pos hv] at h ⊢
      obtain ⟨l, e1, e2, e3⟩ := allGo_true lo hi ps _ h
      have hp := valIn_true hv
      refine ⟨(valIn lo hi p).1 :: l, by rw [e1]; simp, by rw [List.map_cons, e2, hp.1], fun v hm => ?_⟩
      rcases List.mem_cons.mp hm with z | z
      · rw [z]; exact hp.2
      · exact e3 v z
    · rw [if_neg hv] at h
      cases h
theorem allGo_itoa (lo hi : Int) : ∀ (l acc : List Int), (∀ v ∈ l, (-9223372036854775808 ≤ v ∧ v ≤ 9223372036854775807) ∧ lo ≤ v ∧ v ≤ hi) → allGo lo hi (l.map Lib.itoa) acc = (acc ++ l, true)
  | [], acc, _ => by rw [List.append_nil]; rfl
  | v :: l, acc, h => by
    have hv := h v (by simp)
    rw [List.map_cons]
    simp only [allGo]
    rw [valIn_itoa hv.1 hv.2, if_pos rfl]
    dsimp only
    rw [allGo_itoa lo hi l _ (fun z hz => h z (List.mem_cons_of_mem _ hz))]
    simp
theorem jn_map (c : UInt8) (l : List Int) : jn Lib.itoa c l = jn (fun z => z) c (l.map Lib.itoa) := by
  unfold jn
  rw [List.map_map]
  rfl
theorem itoa_no (c : UInt8) (h1 : c.toNat < 48 ∨ 57 < c.toNat) (h2 : c ≠ 45) (n : Int) : c ∉ Lib.itoa n := fun hm => by
  unfold Lib.itoa at hm
  split at hm
  · rcases List.mem_cons.mp hm with e | e
    · exact h2 e
    · have := dec_digits (n.natAbs + 1) n.natAbs (by omega) c e
      omega
  · have := dec_digits (n.toNat + 1) n.toNat (by omega) c hm
    omega
theorem splitL_ints (c : UInt8) (h1 : c.toNat < 48 ∨ 57 < c.toNat) (h2 : c ≠ 45) (l : List Int) (hl : l ≠ []) : splitL c (jn Lib.itoa c l) = l.map Lib.itoa := by
  rw [jn_map]
  refine splitL_of c _ (by simpa using hl) (fun p hp => ?_)
  obtain ⟨v, _, rfl⟩ := List.mem_map.mp hp
  exact itoa_no c h1 h2 v
def allP (c : UInt8) (s : List UInt8) : List Int × Bool := allGo (-1000000000) 1000000000 (splitL c s) []
def B9 (l : List Int) : Prop := ∀ v ∈ l, -1000000000 ≤ v ∧ v ≤ 1000000000
theorem allP_true {c : UInt8} {s : List UInt8} (h : (allP c s).2 = true) : allP c s = ((allP c s).1, true) ∧ jn Lib.itoa c (allP c s).1 = s ∧ (allP c s).1 ≠ [] ∧ B9 (allP c s).1 := by
  unfold allP at h ⊢
  obtain ⟨l, e1, e2, e3⟩ := allGo_true _ _ _ _ h
  rw [e1, List.nil_append]
  refine ⟨rfl, ?_, fun e => ?_, fun v hv => (e3 v hv).2⟩
  · dsimp only
    rw [jn_map, e2, splitL_join]
  · dsimp only at e
    rw [e, List.map_nil] at e2
    exact splitL_ne c s e2.symm
theorem allP_text {c : UInt8} (h1 : c.toNat < 48 ∨ 57 < c.toNat) (h2 : c ≠ 45) {l : List Int} (hl : l ≠ []) (hb : B9 l) : allP c (jn Lib.itoa c l) = (l, true) := by
  unfold allP
  rw [splitL_ints c h1 h2 l hl, allGo_itoa _ _ l [] (fun v hv => by have := hb v hv; omega), List.nil_append]

/- The plan with a text, as the program reads it. -/
def plOk (cs : List S77) (fc st : List Int) (x y : Int) (p : List S66) : Bool := hdOk cs fc st x y && planOk cs.length st p
def GoodPl (cs : List S77) (fc st : List Int) (x y : Int) (r : List S66 × Bool) (s : List UInt8) : Prop :=
  (r = ([], false) ∨ ∃ p, r = (p, true) ∧ plOk cs fc st x y p = true ∧ planT p = s) ∧ ∀ p, plOk cs fc st x y p = true → planT p = s → r = (p, true)
theorem goodPl_eq {cs : List S77} {fc st : List Int} {x y : Int} {r q : List S66 × Bool} {s : List UInt8} (h : GoodPl cs fc st x y r s) (g : GoodPl cs fc st x y q s) : r = q := by
  rcases h.1 with e | ⟨p, e, h1, h2⟩
  · rcases g.1 with f | ⟨p, f, h1, h2⟩
    · rw [e, f]
    · have := h.2 p h1 h2
      rw [e] at this
      exact absurd (congrArg (fun z => z.2) this) (by simp)
  · rw [e, g.2 p h1 h2]
structure PlV (p : List S66) : Prop where
  pn : p.length ≤ 61
  pv : ∀ t ∈ p, (0 ≤ t.f0 ∧ t.f0 ≤ 60) ∧ t.f1 ≠ [] ∧ t.f1.length ≤ 6 ∧ ∀ v ∈ t.f1, 0 ≤ v ∧ v ≤ 5
theorem up_ge {l : List Int} {lo : Int} (hl : ∀ j : Nat, j < l.length → lo ≤ rd l (j : Int)) (hs : ∀ j : Nat, j + 1 < l.length → rd l (j : Int) < rd l ((j + 1 : Nat) : Int)) : ∀ j : Nat, j < l.length → lo + (j : Int) ≤ rd l (j : Int)
  | 0, h => by have := hl 0 h; omega
  | j + 1, h => by
    have h1 := up_ge hl hs j (by omega)
    have h2 := hs j h
    omega
theorem rises_few {l : List Int} {hi : Int} (h : rises l 0 hi = true) : (l.length : Int) ≤ hi + 1 ∨ l = [] := by
  by_cases c : l = []
  · exact Or.inr c
  · left
    have hp := List.length_pos_iff.mpr c
    unfold rises at h
    rw [upTo_iff] at h
    have hr : ∀ j : Nat, j < l.length → (0 ≤ rd l (j : Int) ∧ rd l (j : Int) ≤ hi) ∧ (j = 0 ∨ rd l ((j - 1 : Nat) : Int) < rd l (j : Int)) := fun j hj => by
      have := h j (by omega) (by omega)
      unfold riseOk at this
      simpa only [Bool.and_eq_true, Bool.or_eq_true, decide_eq_true_eq] using this
    have := up_ge (l := l) (lo := 0) (fun j hj => (hr j hj).1.1) (fun j hj => by
      rcases (hr (j + 1) hj).2 with e | e
      · omega
      · exact e) (l.length - 1) (by omega)
    have h2 := (hr (l.length - 1) (by omega)).1.2
    omega
theorem plOk_vals {cs : List S77} {fc st : List Int} {x y : Int} {p : List S66} (h : plOk cs fc st x y p = true) : PlV p := by
  unfold plOk at h
  rw [Bool.and_eq_true] at h
  have hv := hdOk_vals h.1
  have hn := hv.cn
  have h2 := h.2
  unfold planOk at h2
  rw [upTo_iff] at h2
  have hw : wrap64 ((cs.length : Int) - 1) = (cs.length : Int) - 1 := w64 _ (by omega) (by omega)
  have h3 : ∀ j : Nat, j < p.length → (rd_T66 p (j : Int)).f0 ∈ st ∧ (rd_T66 p (j : Int)).f1.length ≠ 0 ∧ rises (rd_T66 p (j : Int)).f1 0 ((cs.length : Int) - 1) = true ∧ (j = 0 ∨ (rd_T66 p ((j - 1 : Nat) : Int)).f0 < (rd_T66 p (j : Int)).f0) := by
    intro j hj
    have := h2 j (by omega) (by omega)
    unfold stopOk at this
    rw [hw] at this
    simp only [Bool.and_eq_true, Bool.or_eq_true, decide_eq_true_eq, Bool.not_eq_true', decide_eq_false_iff_not] at this
    exact ⟨this.1, by have := this.2.1; omega, this.2.2.1, this.2.2.2⟩
  have hrd : ∀ j : Nat, j < p.length → rd (p.map fun t => t.f0) (j : Int) = (rd_T66 p (j : Int)).f0 := fun j hj => by
    rw [rd_at _ j (by rw [List.length_map]; exact hj), rdStop_at p j hj]
    simp
  refine ⟨?_, fun t ht => ?_⟩
  · by_cases c : p = []
    · rw [c]; simp
    · have hp := List.length_pos_iff.mpr c
      have hr := up_ge (l := p.map fun t => t.f0) (lo := 0) (fun j hj => by
        rw [List.length_map] at hj
        rw [hrd j hj]
        exact (hv.sv _ (h3 j hj).1).1) (fun j hj => by
        rw [List.length_map] at hj
        rw [hrd j (by omega), hrd (j + 1) hj]
        rcases (h3 (j + 1) hj).2.2.2 with e | e
        · omega
        · exact e) (p.length - 1) (by rw [List.length_map]; omega)
      rw [hrd _ (by omega)] at hr
      have := (hv.sv _ (h3 (p.length - 1) (by omega)).1).2
      omega
  · obtain ⟨j, hj, rfl⟩ := List.getElem_of_mem ht
    have := h3 j hj
    rw [rdStop_at p j hj] at this
    obtain ⟨a1, a2, a3, _⟩ := this
    refine ⟨hv.sv _ a1, fun e => a2 (by rw [e]; rfl), ?_, fun v hm => ?_⟩
    · rcases rises_few a3 with e | e
      · omega
      · rw [e]; simp
    · have := rises_rng a3 v hm
      omega
theorem stopT_hb (t : S66) : stopT t = Lib.itoa t.f0 ++ 58 :: jn Lib.itoa 44 t.f1 := by
  unfold stopT
  simp
theorem stopT_no (t : S66) : (59 : UInt8) ∉ stopT t := fun hm => by
  rw [stopT_hb] at hm
  rcases List.mem_append.mp hm with e | e
  · exact itoa_no 59 (by decide) (by decide) _ e
  · rcases List.mem_cons.mp e with e2 | e2
    · exact absurd e2 (by decide)
    · exact jn_no Lib.itoa 44 59 (by decide) _ (fun v _ => itoa_no 59 (by decide) (by decide) v) e2
theorem planT_jn (p : List S66) : planT p = jn (fun z => z) 59 (p.map stopT) := by
  unfold planT jn
  rw [List.map_map]
  rfl
theorem planT_ne {p : List S66} (h : p ≠ []) : planT p ≠ [] := by
  cases p with
  | nil => exact absurd rfl h
  | cons t p =>
    unfold planT
    rw [jn_cons]
    intro e
    have := congrArg List.length e
    rw [List.length_append, stopT_hb, List.length_append, List.length_cons, List.length_nil] at this
    omega
theorem planT_nil : planT ([] : List S66) = [] := jn_nil _ _
theorem planT_parts {p : List S66} (h : p ≠ []) : splitL 59 (planT p) = p.map stopT := by
  rw [planT_jn]
  refine splitL_of 59 _ (fun e => h (List.map_eq_nil_iff.mp e)) (fun q hq => ?_)
  obtain ⟨t, _, rfl⟩ := List.mem_map.mp hq
  exact stopT_no t
theorem cut_59 {p : List UInt8} (h : (Lib.cut p [58]).2.2 = true) : p = (Lib.cut p [58]).1 ++ 58 :: (Lib.cut p [58]).2.1 := by
  by_cases c : (58 : UInt8) ∈ p
  · obtain ⟨q, r, e, hq⟩ := mem_split 58 p c
    have := cut_app 58 [] r q hq
    rw [show ([58] : List UInt8) ++ r = 58 :: r from rfl, ← e] at this
    rw [this]
    exact e
  · unfold Lib.cut at h
    rw [idx_none 58 p c, if_neg (by omega)] at h
    exact absurd h (by simp)
theorem ints_le (c : UInt8) {l : List Int} : l.length ≤ (jn Lib.itoa c l).length + 1 := by
  cases l with
  | nil => exact Nat.zero_le _
  | cons v l =>
    have := jn_ge c ((v :: l).map Lib.itoa) (Lib.itoa v) (by simp)
    rw [← jn_map, List.length_map] at this
    omega
def v9p (s : List UInt8) : Int × Bool := valIn (-1000000000) 1000000000 s
def rdStopT (p : List UInt8) : Option S66 :=
  if (Lib.cut p [58]).2.2 = true then (if (v9p (Lib.cut p [58]).1).2 = true then (if (allP 44 (Lib.cut p [58]).2.1).2 = true then some ⟨(v9p (Lib.cut p [58]).1).1, (allP 44 (Lib.cut p [58]).2.1).1⟩ else none) else none) else none
theorem rdStopT_some {p : List UInt8} {h : S66} (e : rdStopT p = some h) : stopT h = p ∧ h.f1.length ≤ p.length := by
  unfold rdStopT at e
  split at e
  · rename_i h1
    split at e
    · rename_i h2
      split at e
      · rename_i h3
        obtain rfl := Option.some.inj e
        have c := cut_59 h1
        have a := (valIn_true h2).1
        have b := (allP_true h3).2.1
        have g := @ints_le 44 (allP 44 (Lib.cut p [58]).2.1).1
        rw [b] at g
        have l := congrArg List.length c
        rw [List.length_append, List.length_cons] at l
        refine ⟨?_, by dsimp only; omega⟩
        rw [stopT_hb]
        unfold v9p
        dsimp only
        rw [a, b]
        exact c.symm
      · cases e
    · cases e
  · cases e
theorem rdStopT_text {h : S66} (h0 : -1000000000 ≤ h.f0 ∧ h.f0 ≤ 1000000000) (hl : h.f1 ≠ []) (hb : B9 h.f1) : rdStopT (stopT h) = some h := by
  have hc := cut_app 58 [] (jn Lib.itoa 44 h.f1) (Lib.itoa h.f0) (itoa_no 58 (by decide) (by decide) _)
  rw [show ([58] : List UInt8) ++ jn Lib.itoa 44 h.f1 = 58 :: jn Lib.itoa 44 h.f1 from rfl] at hc
  rw [stopT_hb]
  unfold rdStopT v9p
  rw [hc]
  dsimp only
  rw [valIn_itoa (by omega) h0, allP_text (by decide) (by decide) hl hb, if_pos rfl, if_pos rfl, if_pos rfl]
def stopsGo : List (List UInt8) → List S66 → Option (List S66)
  | [], acc => some acc
  | p :: ps, acc => match rdStopT p with
    | some h => stopsGo ps (acc ++ [h])
    | none => none
theorem stopsGo_some : ∀ (ps : List (List UInt8)) (acc q : List S66), stopsGo ps acc = some q → ∃ l, q = acc ++ l ∧ ps = l.map stopT ∧ ∀ h ∈ l, ∃ p ∈ ps, h.f1.length ≤ p.length
  | [], acc, q, h => ⟨[], by rw [List.append_nil]; exact (Option.some.inj h).symm, rfl, fun x hx => by simp at hx⟩
  | p :: ps, acc, q, h => by
    simp only [stopsGo] at h
    split at h
    · rename_i x e
      obtain ⟨l, e1, e2, e3⟩ := stopsGo_some ps _ q h
      obtain ⟨a, b⟩ := rdStopT_some e
      refine ⟨x :: l, by rw [e1]; simp, by rw [List.map_cons, a, ← e2], fun y hy => ?_⟩
      rcases List.mem_cons.mp hy with z | z
      · exact ⟨p, by simp, by rw [z]; exact b⟩
      · obtain ⟨u, hu, hv⟩ := e3 y z
        exact ⟨u, List.mem_cons_of_mem _ hu, hv⟩
    · cases h
theorem stopsGo_text : ∀ (l acc : List S66), (∀ h ∈ l, rdStopT (stopT h) = some h) → stopsGo (l.map stopT) acc = some (acc ++ l)
  | [], acc, _ => by rw [List.append_nil]; rfl
  | h :: l, acc, hh => by
    simp only [List.map_cons, stopsGo]
    rw [hh h (by simp)]
    dsimp only
    rw [stopsGo_text l _ (fun x hx => hh x (List.mem_cons_of_mem _ hx))]
    simp
def endPl (cs : List S77) (fc st : List Int) (x y : Int) (o : Option (List S66)) : List S66 × Bool := match o with
  | none => ([], false)
  | some p => if plOk cs fc st x y p = true then (p, true) else ([], false)
theorem goodPl_of {cs : List S77} {fc st : List Int} {x y : Int} {s : List UInt8} : GoodPl cs fc st x y (endPl cs fc st x y (if s = [] then some [] else stopsGo (splitL 59 s) [])) s := by
  have hj := splitL_join 59 s
  refine ⟨?_, fun p hp ht => ?_⟩
  · by_cases c : s = []
    · rw [if_pos c]
      simp only [endPl]
      split
      · rename_i h
        exact Or.inr ⟨[], rfl, h, by rw [c]; exact planT_nil⟩
      · exact Or.inl rfl
    · rw [if_neg c]
      cases hg : stopsGo (splitL 59 s) [] with
      | none => exact Or.inl rfl
      | some q =>
        obtain ⟨l, e1, e2, _⟩ := stopsGo_some _ _ _ hg
        rw [List.nil_append] at e1
        subst e1
        simp only [endPl]
        split
        · rename_i h
          refine Or.inr ⟨_, rfl, h, ?_⟩
          rw [planT_jn, ← e2]
          exact hj
        · exact Or.inl rfl
  · have hv := plOk_vals hp
    by_cases c : p = []
    · subst c
      rw [← ht, planT_nil, if_pos rfl]
      simp only [endPl]
      rw [if_pos hp]
    · rw [← ht, if_neg (planT_ne c), planT_parts c, stopsGo_text p [] (fun t hm => by
        have := hv.pv t hm
        exact rdStopT_text (by omega) this.2.1 (fun v hm2 => by have := this.2.2.2 v hm2; omega)), List.nil_append]
      simp only [endPl]
      rw [if_pos hp]
def totL : List (List UInt8) → Nat
  | [] => 0
  | p :: ps => p.length + 1 + totL ps
theorem jn_tot (c : UInt8) (p : List UInt8) (ps : List (List UInt8)) : (jn (fun z => z) c (p :: ps)).length + 1 = totL (p :: ps) := by
  have h : ∀ qs : List (List UInt8), ((qs.map (fun q => c :: q)).flatten).length = totL qs := fun qs => by
    induction qs with
    | nil => rfl
    | cons q qs ih =>
      rw [List.map_cons, List.flatten_cons, List.length_append, ih, List.length_cons]
      rfl
  rw [jn_cons, List.length_append, h ps]
  simp only [totL]
  omega
theorem split_tot (c : UInt8) (s : List UInt8) : totL (splitL c s) = s.length + 1 := by
  obtain ⟨p, ps, e⟩ := splitL_cons c s
  have hj := splitL_join c s
  rw [e] at hj ⊢
  rw [← jn_tot c, hj]
theorem implRP_l0 (cs : List S77) (fc st : List Int) (x y : Int) (hc : cs.length ≤ 1048576) (hb : fc.length ≤ 1048576) (hs : st.length ≤ 1048576) (L : List (List UInt8)) (hL : L.length ≤ 1048577) (hp : ∀ p ∈ L, p.length ≤ 1048576) (F : Nat) (hF : 8000000 ≤ F) : ∀ (d k i : Nat) (acc : List S66), i + d = L.length → d + F < k → 2 * acc.length + totL (L.drop i) ≤ 1048577 → (∀ h ∈ acc, h.f1.length ≤ 1048576) →
    impl_ReadPlan.l0 k acc (L.map tx) (L.length : Int) i cs fc st x y = some (endPl cs fc st x y (stopsGo (L.drop i) acc)) := by
  intro d
  induction d with
  | zero =>
    intro k i acc hi hk ha hsh
    obtain ⟨k, rfl⟩ : ∃ m, k = m + 1 := ⟨k - 1, by omega⟩
    simp only [impl_ReadPlan.l0]
    rw [if_neg (by omega), implIsPlan_is k cs fc st x y acc hc hb hs ⟨by omega, hsh⟩ (by omega), bind_some_, List.drop_of_length_le (by omega)]
    simp only [stopsGo, endPl]
    unfold plOk
    split <;> rfl
  | succ d ih =>
    intro k i acc hi hk ha hsh
    obtain ⟨k, rfl⟩ : ∃ m, k = m + 1 := ⟨k - 1, by omega⟩
    have hlt : i < L.length := by omega
    have hpl := hp _ (List.getElem_mem hlt)
    have hcl := cut_len L[i] [58]
    rw [List.drop_eq_getElem_cons hlt] at ha ⊢
    simp only [totL] at ha
    simp only [impl_ReadPlan.l0]
    rw [if_pos (by omega), if_pos (by omega), List.length_map, if_pos (by omega), rdB_at L i hlt, lit1, lit1]
    unfold strings_Cut.f
    rw [tx_size, if_pos (by omega), tx_data, tx_data, bind_some_]
    dsimp only
    rw [show (⟨(Lib.cut L[i] [58]).1.toArray⟩ : ByteArray) = tx (Lib.cut L[i] [58]).1 from rfl, show (⟨(Lib.cut L[i] [58]).2.1.toArray⟩ : ByteArray) = tx (Lib.cut L[i] [58]).2.1 from rfl, implReadDecimal_is _ (by omega), bind_some_, readAll_is _ _ 44 _ (by omega) k (by omega), bind_some_]
    simp only [stopsGo]
    unfold rdStopT v9p allP
    by_cases c1 : (Lib.cut L[i] [58]).2.2 = true
    · rw [if_pos c1, if_pos c1]
      by_cases c2 : (valIn (-1000000000) 1000000000 (Lib.cut L[i] [58]).1).2 = true
      · rw [if_pos c2, if_pos c2]
        by_cases c3 : (allGo (-1000000000) 1000000000 (splitL 44 (Lib.cut L[i] [58]).2.1) []).2 = true
        · have hr : rdStopT L[i] = some ⟨(valIn (-1000000000) 1000000000 (Lib.cut L[i] [58]).1).1, (allGo (-1000000000) 1000000000 (splitL 44 (Lib.cut L[i] [58]).2.1) []).1⟩ := by
            unfold rdStopT v9p allP
            rw [if_pos c1, if_pos c2, if_pos c3]
          have hn := (rdStopT_some hr).2
          have h1 := congrArg List.length (rdStopT_some hr).1
          rw [stopT_hb, List.length_append, List.length_cons] at h1
          rw [if_pos c3, if_pos c3, if_pos (by omega), w64s i (by omega)]
          dsimp only
          refine ih k (i + 1) _ (by omega) (by omega) (by rw [List.length_append, List.length_singleton]; omega) (fun h hm => ?_)
          rcases List.mem_append.mp hm with e | e
          · exact hsh h e
          · rw [List.mem_singleton.mp e]
            dsimp only at hn ⊢
            omega
        · rw [if_neg c3, if_neg c3]
          rfl
      · rw [if_neg c2, if_neg c2]
        rfl
    · rw [if_neg c1, if_neg c1]
      rfl
theorem implReadPlan_good (k : Nat) (cs : List S77) (fc st : List Int) (x y : Int) (hc : cs.length ≤ 1048576) (hb : fc.length ≤ 1048576) (hst : st.length ≤ 1048576) (s : List UInt8) (hs : s.length ≤ 1048576) (hk : 10000000 < k) : ∃ r, impl_ReadPlan.f k cs fc st x y (tx s) = some r ∧ GoodPl cs fc st x y r s := by
  refine ⟨_, ?_, goodPl_of⟩
  unfold impl_ReadPlan.f
  rw [bind_some_, tx_toList]
  by_cases c : s = []
  · rw [if_pos c, if_pos c, implIsPlan_is k cs fc st x y [] hc hb hst ⟨by simp, by simp⟩ (by simp; omega), bind_some_]
    simp only [endPl]
    unfold plOk
    split <;> rfl
  · have hl := splitL_len 59 s
    have ht := split_tot 59 s
    have := implRP_l0 cs fc st x y hc hb hst (splitL 59 s) (by omega) (fun p hp => by have := hl.2 p hp; omega) 8000000 (by omega) (splitL 59 s).length k 0 [] (by omega) (by omega) (by rw [List.drop_zero]; simp; omega) (by simp)
    rw [List.drop_zero, show ((0 : Nat) : Int) = 0 from rfl] at this
    rw [if_neg c, if_neg c, lit1, split_is 59 s (by omega), bind_some_, List.length_map]
    exact this

/- What the numbers of a text are at most. -/
theorem wrap_rng (x : Int) : -9223372036854775808 ≤ wrap64 x ∧ wrap64 x ≤ 9223372036854775807 := by unfold wrap64; omega
theorem nums_i64 : ∀ (F : Nat) (s : List UInt8) (out : List Int), I64s out → I64s (nums F s out)
  | 0, s, out, h => h
  | F + 1, [], out, h => h
  | F + 1, c :: r, out, h => by
    have happ : ∀ x, I64s (out ++ [wrap64 x]) := fun x v hv => by
      rcases List.mem_append.mp hv with e | e
      · exact h v e
      · rw [List.mem_singleton.mp e]; exact wrap_rng x
    simp only [nums]
    split
    · exact nums_i64 F _ _ (happ _)
    · split
      · exact nums_i64 F _ _ (happ _)
      · exact nums_i64 F r out h
theorem nums_len : ∀ (F : Nat) (s : List UInt8) (out : List Int), (nums F s out).length ≤ out.length + s.length
  | 0, s, out => by simp [nums]
  | F + 1, [], out => by simp [nums]
  | F + 1, c :: r, out => by
    have h8 := takeD_len 8 r 0
    simp only [nums]
    split
    · rename_i ht
      have hd : isDg c = true := by
        unfold tok at ht
        split at ht
        · assumption
        · split at ht
          · split at ht
            · omega
            · split at ht <;> omega
          · omega
      have e : takeD 8 (c :: r) 0 = takeD 7 r (wrap64 (wrap64 (10 * 0) + (((c.toNat : Int) - 48) % 256))) := by
        simp only [takeD]
        rw [if_pos hd]
      have h7 := takeD_len 7 r (wrap64 (wrap64 (10 * 0) + (((c.toNat : Int) - 48) % 256)))
      have := nums_len F (takeD 8 (c :: r) 0).2 (out ++ [wrap64 (1 * (takeD 8 (c :: r) 0).1)])
      rw [List.length_append, List.length_singleton] at this
      rw [e] at this
      rw [List.length_cons, e]
      omega
    · split
      · have := nums_len F (takeD 8 r 0).2 (out ++ [wrap64 (-1 * (takeD 8 r 0).1)])
        rw [List.length_append, List.length_singleton] at this
        rw [List.length_cons]
        omega
      · have := nums_len F r out
        rw [List.length_cons]
        omega
theorem numsOf_64 (s : List UInt8) : I64s (numsOf s []) ∧ (numsOf s []).length ≤ s.length := by
  have h := nums_len (s.length + 1) s []
  exact ⟨nums_i64 _ s [] (fun v hv => by simp at hv), by unfold numsOf; simpa using h⟩
/- A byte of a text. -/
theorem bt_at (l : List UInt8) (i : Nat) (h : i < l.length) : bt (tx l) (i : Int) = (l[i].toNat : Int) := by
  unfold bt
  have h2 : ((i : Int)).toNat < (tx l).size := by rw [tx_size, Int.toNat_natCast]; exact h
  rw [dif_pos h2]
  rfl

/- The numbers of a text, as the reference's loops read them. -/
theorem specNums_l1 (s : List UInt8) (hs : s.length ≤ 1048576) (out : List Int) (ho : out.length ≤ 2000000) (sg : Int) : ∀ (n k i : Nat) (a : Int), n ≤ 8 → i ≤ s.length → n + 2 < k →
    ∃ j q : Nat, i ≤ j ∧ j ≤ s.length ∧ k ≤ q + n + 1 ∧ ((0 < n ∧ ∃ c r, s.drop i = c :: r ∧ isDg c = true) → i < j) ∧ (takeD n (s.drop i) a).2 = s.drop j ∧ spec_l02Numbers.l1 k (tx s) out i sg a ((8 - n : Nat) : Int) = spec_l02Numbers.l0 q (tx s) (out ++ [wrap64 (sg * (takeD n (s.drop i) a).1)]) (j : Int) := by
  intro n
  induction n with
  | zero =>
    intro k i a h8 hi hk
    obtain ⟨k, rfl⟩ : ∃ m, k = m + 1 := ⟨k - 1, by omega⟩
    refine ⟨i, k, Nat.le_refl _, hi, by omega, fun h => by omega, rfl, ?_⟩
    simp only [spec_l02Numbers.l1]
    rw [if_neg (by omega), if_pos (by omega)]
    rfl
  | succ n ih =>
    intro k i a h8 hi hk
    obtain ⟨k, rfl⟩ : ∃ m, k = m + 1 := ⟨k - 1, by omega⟩
    simp only [spec_l02Numbers.l1]
    rw [if_pos (by omega), tx_size]
    by_cases hlt : i < s.length
    · rw [if_pos (by omega), if_pos (by omega), bt_at s i hlt, List.drop_eq_getElem_cons hlt]
      simp only [takeD]
      by_cases hd : isDg s[i] = true
      · have hd2 := of_decide_eq_true hd
        obtain ⟨j, q, e1, e2, e3, _, e5, e6⟩ := ih k (i + 1) (wrap64 (wrap64 (10 * a) + (((s[i].toNat : Nat) : Int) - 48) % 256)) (by omega) (by omega) (by omega)
        refine ⟨j, q, by omega, e2, by omega, fun _ => by omega, ?_, ?_⟩
        · rw [if_pos hd]
          exact e5
        · rw [if_pos (by omega), if_pos (by omega), if_pos hd, w64s i (by omega), w64 (((8 - (n + 1) : Nat) : Int) + 1) (by omega) (by omega), show ((8 - (n + 1) : Nat) : Int) + 1 = ((8 - n : Nat) : Int) by omega]
          exact e6
      · refine ⟨i, k, Nat.le_refl _, hi, by omega, fun h => ?_, ?_, ?_⟩
        · obtain ⟨_, c, r, e, h2⟩ := h
          simp only [List.cons.injEq] at e
          rw [e.1] at hd
          exact absurd h2 hd
        · rw [if_neg hd, ← List.drop_eq_getElem_cons hlt]
        · rw [if_neg hd]
          have hd2 : ¬ (48 ≤ s[i].toNat ∧ s[i].toNat ≤ 57) := fun z => hd (decide_eq_true z)
          by_cases h1 : ((s[i].toNat : Nat) : Int) ≥ 48
          · rw [if_pos h1, if_neg (by omega), if_pos (by omega)]
          · rw [if_neg h1, if_pos (by omega)]
    · refine ⟨i, k, Nat.le_refl _, hi, by omega, fun h => ?_, ?_, ?_⟩
      · obtain ⟨_, c, r, e, _⟩ := h
        rw [List.drop_of_length_le (by omega)] at e
        cases e
      · rw [List.drop_of_length_le (by omega)]
        rfl
      · rw [if_neg (by omega), if_pos (by omega), List.drop_of_length_le (by omega)]
        rfl
theorem specNums_l0 (s : List UInt8) (hs : s.length ≤ 1048576) : ∀ (F k i : Nat) (out : List Int), i ≤ s.length → s.length - i < F → 20 * (s.length - i) + 200 < k → out.length ≤ i → spec_l02Numbers.l0 k (tx s) out i = some (nums F (s.drop i) out) := by
  intro F
  induction F with
  | zero => intro k i out _ h; omega
  | succ F ih =>
    intro k i out hi hF hk ho
    obtain ⟨k, rfl⟩ : ∃ m, k = m + 4 := ⟨k - 4, by omega⟩
    by_cases hlt : i < s.length
    · have hdr := List.drop_eq_getElem_cons hlt
      rw [hdr]
      simp only [spec_l02Numbers.l0, nums]
      rw [tx_size, if_pos (by omega), if_pos (by omega), bt_at s i hlt]
      have hdig : isDg s[i] = true → spec_l02Numbers.j3 (k + 1) (tx s) out i 1 = some (nums F (takeD 8 (s[i] :: s.drop (i + 1)) 0).2 (out ++ [wrap64 (1 * (takeD 8 (s[i] :: s.drop (i + 1)) 0).1)])) := fun hd => by
        simp only [spec_l02Numbers.j3]
        obtain ⟨j, q, e1, e2, e3, e4, e5, e6⟩ := specNums_l1 s hs out (by omega) 1 8 k i 0 (by omega) (by omega) (by omega)
        have hj := e4 ⟨by omega, _, _, hdr, hd⟩
        rw [hdr] at e5 e6
        rw [show ((8 - 8 : Nat) : Int) = 0 from rfl] at e6
        rw [e6, e5]
        exact ih q j _ e2 (by omega) (by omega) (by rw [List.length_append, List.length_singleton]; omega)
      have hnext : ∀ q, 20 * (s.length - (i + 1)) + 200 < q → spec_l02Numbers.l0 q (tx s) out (wrap64 ((i : Int) + 1)) = some (nums F (s.drop (i + 1)) out) := fun q hq => by
        rw [w64s i (by omega)]
        exact ih q (i + 1) out (by omega) (by omega) hq (by omega)
      by_cases h45 : ((s[i].toNat : Nat) : Int) = 45
      · have e45 : s[i] = 45 := UInt8.toNat_inj.mp (by rw [show (45 : UInt8).toNat = 45 from rfl]; omega)
        have hnd : isDg s[i] = false := by rw [e45]; rfl
        rw [if_pos h45]
        simp only [spec_l02Numbers.j1]
        rw [if_pos (by omega), tx_size, if_pos (by omega), bt_at s i hlt, if_pos (by omega)]
        simp only [spec_l02Numbers.j2]
        rw [if_pos trivial, if_neg (by omega), tx_size, w64s i (by omega)]
        have ht0 : tok s[i] [] = 0 := by
          unfold tok
          rw [if_neg (by rw [hnd]; simp), if_pos e45]
        have ht1 : ∀ (d : UInt8) (r : List UInt8), tok s[i] (d :: r) = if isDg d = true then -1 else 0 := fun d r => by
          unfold tok
          rw [if_neg (by rw [hnd]; simp), if_pos e45]
        by_cases hend : i + 1 = s.length
        · rw [if_pos (by omega)]
          have := hnext (k + 1) (by omega)
          rw [w64s i (by omega)] at this
          rw [this, List.drop_of_length_le (by omega), ht0, if_neg (by omega), if_neg (by omega)]
        · have hlt2 : i + 1 < s.length := by omega
          rw [if_neg (by omega), if_pos (by omega), if_pos (by omega), bt_at s (i + 1) hlt2]
          have ht := ht1 s[i + 1] (s.drop (i + 1 + 1))
          have hskip : isDg s[i + 1] = false → spec_l02Numbers.l0 (k + 1) (tx s) out ((i + 1 : Nat) : Int) = some (if tok s[i] (s.drop (i + 1)) = 1 then nums F (takeD 8 (s[i] :: s.drop (i + 1)) 0).2 (out ++ [wrap64 (1 * (takeD 8 (s[i] :: s.drop (i + 1)) 0).1)]) else if tok s[i] (s.drop (i + 1)) = -1 then nums F (takeD 8 (s.drop (i + 1)) 0).2 (out ++ [wrap64 (-1 * (takeD 8 (s.drop (i + 1)) 0).1)]) else nums F (s.drop (i + 1)) out) := fun hz => by
            have := hnext (k + 1) (by omega)
            rw [w64s i (by omega)] at this
            rw [List.drop_eq_getElem_cons hlt2, ht, hz, if_neg (show ¬ (false = true) by simp), if_neg (by omega), if_neg (by omega), ← List.drop_eq_getElem_cons hlt2]
            exact this
          by_cases h1 : ((s[i + 1].toNat : Nat) : Int) < 48
          · rw [if_pos h1]
            exact hskip (by unfold isDg; exact decide_eq_false (by omega))
          · rw [if_neg h1]
            by_cases h2 : ((s[i + 1].toNat : Nat) : Int) > 57
            · rw [if_pos h2]
              exact hskip (by unfold isDg; exact decide_eq_false (by omega))
            · rw [if_neg h2]
              have hd : isDg s[i + 1] = true := by unfold isDg; exact decide_eq_true (by omega)
              simp only [spec_l02Numbers.j3]
              obtain ⟨j, q, e1, e2, e3, e4, e5, e6⟩ := specNums_l1 s hs out (by omega) (-1) 8 k (i + 1) 0 (by omega) (by omega) (by omega)
              have hj := e4 ⟨by omega, _, _, List.drop_eq_getElem_cons hlt2, hd⟩
              rw [show ((8 - 8 : Nat) : Int) = 0 from rfl] at e6
              rw [e6]
              have hk1 : tok s[i] (s.drop (i + 1)) = -1 := by rw [List.drop_eq_getElem_cons hlt2, ht, hd, if_pos rfl]
              rw [hk1, if_neg (by omega), if_pos rfl, e5]
              exact ih q j _ e2 (by omega) (by omega) (by rw [List.length_append, List.length_singleton]; omega)
      · have n45 : s[i] ≠ 45 := fun e => h45 (by rw [e]; rfl)
        rw [if_neg h45]
        simp only [spec_l02Numbers.j1]
        rw [if_pos (by omega), tx_size, if_pos (by omega), bt_at s i hlt]
        have hskip : isDg s[i] = false → spec_l02Numbers.l0 (k + 1) (tx s) out (wrap64 ((i : Int) + 1)) = some (if tok s[i] (s.drop (i + 1)) = 1 then nums F (takeD 8 (s[i] :: s.drop (i + 1)) 0).2 (out ++ [wrap64 (1 * (takeD 8 (s[i] :: s.drop (i + 1)) 0).1)]) else if tok s[i] (s.drop (i + 1)) = -1 then nums F (takeD 8 (s.drop (i + 1)) 0).2 (out ++ [wrap64 (-1 * (takeD 8 (s.drop (i + 1)) 0).1)]) else nums F (s.drop (i + 1)) out) := fun hz => by
          rw [tok_sep s[i] _ hz n45, if_neg (by omega), if_neg (by omega)]
          exact hnext (k + 1) (by omega)
        by_cases h1 : ((s[i].toNat : Nat) : Int) < 48
        · rw [if_pos h1]
          simp only [spec_l02Numbers.j2]
          rw [if_pos trivial, if_pos (by omega)]
          exact hskip (by unfold isDg; exact decide_eq_false (by omega))
        · rw [if_neg h1]
          simp only [spec_l02Numbers.j2]
          by_cases h2 : ((s[i].toNat : Nat) : Int) > 57
          · rw [decide_eq_true h2, if_pos rfl, if_pos (by omega)]
            exact hskip (by unfold isDg; exact decide_eq_false (by omega))
          · have hd : isDg s[i] = true := by unfold isDg; exact decide_eq_true (by omega)
            rw [decide_eq_false h2, if_neg (by simp), hdig hd]
            have : tok s[i] (s.drop (i + 1)) = 1 := by
              unfold tok
              rw [if_pos hd]
            rw [this, if_pos rfl]
    · rw [List.drop_of_length_le (by omega)]
      simp only [spec_l02Numbers.l0, nums]
      rw [tx_size, if_neg (by omega)]
theorem specNums_is (s : List UInt8) (hs : s.length ≤ 1048576) (k : Nat) (hk : 20 * s.length + 200 < k) : spec_l02Numbers.f k (tx s) = some (numsOf s []) := by
  unfold spec_l02Numbers.f numsOf
  exact specNums_l0 s hs (s.length + 1) k 0 [] (by omega) (by omega) (by omega) (by simp)

/- A text in parts, as the reference splits it. -/
theorem drop_cut (s : List UInt8) (f i : Nat) (hf : f ≤ i) (h : i < s.length) : s.drop f = (s.drop f).take (i - f) ++ s[i] :: s.drop (i + 1) := by
  have h1 := List.take_append_drop (i - f) (s.drop f)
  rw [List.drop_drop, show f + (i - f) = i by omega, List.drop_eq_getElem_cons h] at h1
  exact h1.symm
theorem specSplit_l0 (c : UInt8) (s : List UInt8) (hs : s.length ≤ 1048576) : ∀ (d k i f : Nat) (done : List (List UInt8)), i + d = s.length → d + 10 < k → f ≤ i → done.length ≤ i → c ∉ (s.drop f).take (i - f) → spec_l08Split.l0 k (tx s) (c.toNat : Int) (done.map tx) f i = some ((done ++ splitL c (s.drop f)).map tx) := by
  intro d
  induction d with
  | zero =>
    intro k i f done hi hk hf hd hc
    obtain ⟨k, rfl⟩ : ∃ m, k = m + 1 := ⟨k - 1, by omega⟩
    have e : (s.drop f).take (i - f) = s.drop f := List.take_of_length_le (by rw [List.length_drop]; omega)
    rw [e] at hc
    simp only [spec_l08Split.l0]
    rw [tx_size, if_neg (by omega), if_pos (by omega), if_pos (by omega), List.length_map, if_pos (by omega), Int.toNat_natCast, ext_tx, show s.length - f = i - f by omega, e, splitL_one c _ hc, List.map_append]
    rfl
  | succ d ih =>
    intro k i f done hi hk hf hd hc
    obtain ⟨k, rfl⟩ : ∃ m, k = m + 1 := ⟨k - 1, by omega⟩
    have hlt : i < s.length := by omega
    simp only [spec_l08Split.l0]
    rw [tx_size, if_pos (by omega), if_pos (by omega), bt_at s i hlt]
    by_cases h : ((s[i].toNat : Nat) : Int) = (c.toNat : Int)
    · have ec : s[i] = c := UInt8.toNat_inj.mp (by omega)
      rw [if_pos h, if_pos (by omega), if_pos (by omega), if_pos (by omega), List.length_map, if_pos (by omega), w64s i (by omega), Int.toNat_natCast, Int.toNat_natCast, ext_tx]
      have e2 := drop_cut s f i hf hlt
      rw [ec] at e2
      have e3 : splitL c (s.drop f) = (s.drop f).take (i - f) :: splitL c (s.drop (i + 1)) := by
        conv => lhs; rw [e2]
        exact splitL_app c _ _ hc
      have := ih k (i + 1) (i + 1) (done ++ [(s.drop f).take (i - f)]) (by omega) (by omega) (Nat.le_refl _) (by rw [List.length_append, List.length_singleton]; omega) (by rw [Nat.sub_self, List.take_zero]; simp)
      rw [List.map_append] at this
      rw [e3]
      rw [show done ++ (s.drop f).take (i - f) :: splitL c (s.drop (i + 1)) = (done ++ [(s.drop f).take (i - f)]) ++ splitL c (s.drop (i + 1)) by simp]
      exact this
    · rw [if_neg h, w64s i (by omega)]
      refine ih k (i + 1) f done (by omega) (by omega) (by omega) (by omega) ?_
      rw [show i + 1 - f = (i - f) + 1 by omega, List.take_add_one, List.getElem?_drop, show f + (i - f) = i by omega, List.getElem?_eq_getElem hlt]
      intro hm
      rcases List.mem_append.mp hm with z | z
      · exact hc z
      · simp only [Option.toList_some, List.mem_singleton] at z
        exact h (by rw [z])
theorem specSplit_is (c : UInt8) (s : List UInt8) (hs : s.length ≤ 1048576) (k : Nat) (hk : s.length + 10 < k) : spec_l08Split.f k (tx s) (c.toNat : Int) = some ((splitL c s).map tx) := by
  unfold spec_l08Split.f
  have := specSplit_l0 c s hs s.length k 0 0 [] (by omega) hk (Nat.le_refl _) (by simp) (by simp)
  simpa using this

/- The plan with a text, as the reference reads it. -/
def specStops : List (List UInt8) → List S66 → Option (List S66)
  | [], acc => some acc
  | p :: ps, acc => if (numsOf p []).length < 2 then none else specStops ps (acc ++ [⟨rd (numsOf p []) 0, (numsOf p []).drop 1⟩])
def chkPl (cs : List S77) (fc st : List Int) (x y : Int) (s : List UInt8) (o : Option (List S66)) : List S66 × Bool := match o with
  | none => ([], false)
  | some p => if plOk cs fc st x y p = true then (if planT p = s then (p, true) else ([], false)) else ([], false)
theorem numsOf_stop {h : S66} (h0 : -99999999 ≤ h.f0 ∧ h.f0 ≤ 99999999) (h1 : ∀ v ∈ h.f1, -99999999 ≤ v ∧ v ≤ 99999999) : numsOf (stopT h) [] = h.f0 :: h.f1 := by
  rw [stopT_hb, numsOf_int h.f0 h0 _ (by exact (rfl : isDg 58 = false)), numsOf_skip 58 _ _ (tok_sep 58 _ rfl (by decide))]
  have := numsOf_jn 44 rfl (by decide) [] trivial h.f1 ([] ++ [h.f0]) h1
  rw [List.append_nil, numsOf_nil] at this
  exact this
theorem specStops_text : ∀ (l acc : List S66), (∀ h ∈ l, h.f1 ≠ [] ∧ numsOf (stopT h) [] = h.f0 :: h.f1) → specStops (l.map stopT) acc = some (acc ++ l)
  | [], acc, _ => by rw [List.append_nil]; rfl
  | h :: l, acc, hh => by
    obtain ⟨a, b⟩ := hh h (by simp)
    have hpos := List.length_pos_iff.mpr a
    simp only [List.map_cons, specStops]
    rw [b, if_neg (by rw [List.length_cons]; omega)]
    have e : (⟨rd (h.f0 :: h.f1) 0, (h.f0 :: h.f1).drop 1⟩ : S66) = h := rfl
    rw [e, specStops_text l _ (fun x hx => hh x (List.mem_cons_of_mem _ hx))]
    simp
theorem goodPl_spec {cs : List S77} {fc st : List Int} {x y : Int} {s : List UInt8} : GoodPl cs fc st x y (chkPl cs fc st x y s (if s = [] then some [] else specStops (splitL 59 s) [])) s := by
  refine ⟨?_, fun p hp ht => ?_⟩
  · unfold chkPl
    split
    · exact Or.inl rfl
    · split
      · rename_i c1
        split
        · rename_i c2
          exact Or.inr ⟨_, rfl, c1, c2⟩
        · exact Or.inl rfl
      · exact Or.inl rfl
  · have hv := plOk_vals hp
    by_cases c : p = []
    · subst c
      rw [← ht, planT_nil, if_pos rfl]
      unfold chkPl
      dsimp only
      rw [if_pos hp, if_pos planT_nil]
    · have hs := planT_parts c
      have hn := planT_ne c
      rw [← ht, if_neg hn, hs, specStops_text p [] (fun t hm => by
        have := hv.pv t hm
        exact ⟨this.2.1, numsOf_stop (by omega) (fun v hm2 => by have := this.2.2.2 v hm2; omega)⟩), List.nil_append]
      unfold chkPl
      dsimp only
      rw [if_pos hp, if_pos rfl]
theorem specRP_j1 {cs : List S77} {fc st : List Int} {x y : Int} (hh : hdOk cs fc st x y = true) (hc : cs.length ≤ 1048576) (hst : st.length ≤ 1048576) (s : List UInt8) (k : Nat) (acc : List S66) (hp : shortS acc) (h6 : P64 acc) (hk : 4000000 < k) : spec_ReadPlan.j1 (k + 1) (tx s) acc cs fc st x y = some (chkPl cs fc st x y s (some acc)) := by
  simp only [spec_ReadPlan.j1]
  rw [specPlan_is k cs fc st x y acc hc hst hp (by have := hp.1; omega), bind_some_]
  unfold chkPl plOk
  dsimp only
  rw [hh, Bool.true_and]
  by_cases h : planOk cs.length st acc = true
  · have ht := specPlanT_l0 acc hp.1 h6 1048640 (by omega) acc.length k 0 (by omega) (by have := hp.1; omega)
    rw [List.take_zero, jn_nil, show ((0 : Nat) : Int) = 0 from rfl] at ht
    unfold spec_l08PlanText.f
    rw [if_pos h, if_pos h, lit0, ht, bind_some_, tx_toList, tx_toList]
    by_cases e : planT acc = s
    · rw [if_pos e, if_pos e]
    · rw [if_neg e, if_neg e]
  · rw [if_neg h, if_neg h]
theorem specRP_l0 {cs : List S77} {fc st : List Int} {x y : Int} (hh : hdOk cs fc st x y = true) (hc : cs.length ≤ 1048576) (hst : st.length ≤ 1048576) (s : List UInt8) (L : List (List UInt8)) (hL : L.length ≤ 1048577) (hpl : ∀ p ∈ L, p.length ≤ 1048576) (F : Nat) (hF : 30000000 ≤ F) : ∀ (d k i : Nat) (acc : List S66), i + d = L.length → d + F < k → 2 * acc.length + totL (L.drop i) ≤ 1048577 → (∀ h ∈ acc, h.f1.length ≤ 1048576) → P64 acc →
    spec_ReadPlan.l0 k (tx s) acc (L.map tx) i cs fc st x y = some (chkPl cs fc st x y s (specStops (L.drop i) acc)) := by
  intro d
  induction d with
  | zero =>
    intro k i acc hi hk ha hsh h6
    obtain ⟨k, rfl⟩ : ∃ m, k = m + 2 := ⟨k - 2, by omega⟩
    simp only [spec_ReadPlan.l0]
    rw [List.length_map, if_neg (by omega), List.drop_of_length_le (by omega)]
    simp only [specStops]
    exact specRP_j1 hh hc hst s k acc ⟨by omega, hsh⟩ h6 (by omega)
  | succ d ih =>
    intro k i acc hi hk ha hsh h6
    obtain ⟨k, rfl⟩ : ∃ m, k = m + 1 := ⟨k - 1, by omega⟩
    have hlt : i < L.length := by omega
    have hp := hpl _ (List.getElem_mem hlt)
    have n := numsOf_64 L[i]
    rw [List.drop_eq_getElem_cons hlt] at ha ⊢
    simp only [totL] at ha
    simp only [spec_ReadPlan.l0, specStops]
    rw [List.length_map, if_pos (by omega), if_pos (by omega), rdB_at L i hlt, specNums_is L[i] (by omega) k (by omega), bind_some_]
    by_cases c : (numsOf L[i] []).length < 2
    · rw [if_pos (by omega), if_pos c]
      rfl
    · rw [if_neg (by omega), if_neg c, if_pos (by omega), if_pos (by omega), if_pos (by omega), w64s i (by omega)]
      have e0 := rd_at (numsOf L[i] []) 0 (by omega)
      rw [show ((0 : Nat) : Int) = 0 from rfl] at e0
      refine ih k (i + 1) _ (by omega) (by omega) (by rw [List.length_append, List.length_singleton]; omega) (fun t ht => ?_) (fun t ht => ?_)
      · rcases List.mem_append.mp ht with e | e
        · exact hsh t e
        · rw [List.mem_singleton.mp e]
          dsimp only
          rw [List.length_drop]
          omega
      · rcases List.mem_append.mp ht with e | e
        · exact h6 t e
        · rw [List.mem_singleton.mp e]
          dsimp only
          refine ⟨?_, by rw [List.length_drop]; omega, fun v hv => n.1 v (List.mem_of_mem_drop hv)⟩
          rw [e0]
          exact n.1 _ (List.getElem_mem _)
theorem specReadPlan_good (k : Nat) (cs : List S77) (fc st : List Int) (x y : Int) (hc : cs.length ≤ 1048576) (hb : fc.length ≤ 1048576) (hst : st.length ≤ 1048576) (s : List UInt8) (hs : s.length ≤ 1048576) (hk : 40000000 < k) : ∃ r, spec_ReadPlan.f k cs fc st x y (tx s) = some r ∧ GoodPl cs fc st x y r s := by
  unfold spec_ReadPlan.f
  rw [specIs_is k cs fc st x y hc hb hst (by omega), bind_some_]
  by_cases hh : hdOk cs fc st x y = true
  · refine ⟨_, ?_, goodPl_spec⟩
    rw [if_pos hh, bind_some_, tx_size]
    by_cases c : s = []
    · subst c
      obtain ⟨k, rfl⟩ : ∃ m, k = m + 1 := ⟨k - 1, by omega⟩
      rw [if_neg (by simp), if_pos rfl]
      exact specRP_j1 hh hc hst [] k [] ⟨by simp, by simp⟩ (fun t ht => by simp at ht) (by omega)
    · have hpos := List.length_pos_iff.mpr c
      have hl := splitL_len 59 s
      have ht := split_tot 59 s
      have hsp := specSplit_is 59 s hs k (by omega)
      rw [show ((59 : UInt8).toNat : Int) = 59 from rfl] at hsp
      have := specRP_l0 hh hc hst s (splitL 59 s) (by omega) (fun p hp => by have := hl.2 p hp; omega) 30000000 (by omega) (splitL 59 s).length k 0 [] (by omega) (by omega) (by rw [List.drop_zero]; simp; omega) (by simp) (fun t ht => by simp at ht)
      rw [List.drop_zero, show ((0 : Nat) : Int) = 0 from rfl] at this
      rw [if_pos (by omega), if_neg c, hsp, bind_some_]
      exact this
  · rw [if_neg hh]
    refine ⟨_, rfl, Or.inl rfl, fun p hp _ => ?_⟩
    unfold plOk at hp
    rw [Bool.and_eq_true] at hp
    exact absurd hp.1 hh

/- A row whose library variables are laid, proved by a contract that is handed the laid ones and the world's shape. -/
theorem hold_handed {H : Type} {enc : TypeId × Value → H} {a : Assume} {C : Checked} {os : Os} {f : FuncId} {fn : Func} {s : ChangeSpec} {conds : List PathCond} {apart fresh handsOn again : Bool} {X : World → Array Value → Prop}
    (hX : ∀ (w w' : World) (args : Array Value), w.heap = w'.heap → X w args → X w' args)
    (own : ownKnob C.prog.godebug = none) (started : os.Started) (noInit : C.prog.inits.idxOf? f = none) (hfn : C.prog.funcs[f]? = some fn)
    (witness : ∃ (w : World) (tape : Tape) (i : Input), w.os = os ∧ (w.forCall tape i).Shaped C.prog ∧ i.vars = [] ∧ Input.okWide C.prog (w.forCall tape i) .any w.heap.size f i ∧
      ((s.pre enc C.prog fn conds apart (w.forCall tape i).memory i.args ∧ X (w.forCall tape i).memory i.args) ∧ sizedMet enc C.prog fn (OpenSpec.ofChange s) apart (w.forCall tape i).memory i.args) ∧ a.holds C.prog (lone (Frame.enter C.prog f i.args .normal) [] (w.forCall tape i)))
    (contract : ∀ (W : World) (base : Nat) (args : Array Value) (ds gs : List (DataW H)) (before : List MemPlace),
      (∀ (j : Nat) t v, fn.params[j]? = some t → args[j]? = some v → Value.okWide C.prog W .any base t v) →
      DataW.Whole enc C.prog fn.params.toList s.vars apart W args.toList ds gs before →
      conds.all (PathCond.test C.prog ⟨fn.params.toList, ds, s.plain.varTypes C.prog, gs⟩) = true →
      (DataW.weightsEach C.prog (fn.params.toList ++ s.plain.varTypes C.prog) (ds ++ gs)).all (· ≤ reachBytes) = true →
      W.ShapedOpen C.prog ∧ X W args →
      Calls C.prog f args W fun e W' => ∃ v, e = .returned v ∧ s.post enc C.prog fn apart fresh handsOn again W args v W') :
    ReturnsInHanded a C os f .any (fun w args => (s.pre enc C.prog fn conds apart w args ∧ X w args) ∧ sizedMet enc C.prog fn (OpenSpec.ofChange s) apart w args) (s.post enc C.prog fn apart fresh handsOn again) := by
  refine returnsInHanded_of_calls own started noInit witness ?_
  intro w tape i _ hsh _ hok hpre _
  obtain ⟨_, _, _, fn', hfn', _, _, _, _, hval⟩ := hok
  obtain rfl : fn' = fn := Option.some.inj (hfn'.symm.trans hfn)
  obtain ⟨⟨⟨ds, gs, before, hw, hc⟩, hx⟩, hz⟩ := hpre
  refine (contract (w.forCall tape i) w.heap.size i.args ds gs before hval (DataW.Whole.of_heap (w' := w.forCall tape i) (by rfl) hw) hc (hz.weights hw) ⟨hsh, hX _ _ _ (by rfl) hx⟩).mono fun e W' ⟨v, he, hp⟩ => ?_
  subst he
  exact ChangeSpec.post_blind hp

end Go.Proofs.YtfcadpkhmkjibaaDoor.P
