/- A list of the law's own structs that hold lists is copied into the program's, measured, and equal to itself. -/
import Derived.Test.YtcfkpljmihijiaaLemCore
import Derived.Test.YtcfkpljmihijiaaLemEqInt
import Derived.Test.YtcfkpljmihijiaaLemToInt
import Derived.Test.YtcfkpljmihijiaaPx0
import Derived.Test.YtcfkpljmihijiaaPx1
import Derived.Test.YtcfkpljmihijiaaPx5
import Derived.Test.YtcfkpljmihijiaaPx9
namespace Go.Proofs.Ytcfkpljmihijiaa.P
open Go.RowKit Go.Proofs.Ytcfkpljmihijiaa.P Go.Proofs.YtcfkpljmihijiaaW.PrintWords Go.Proofs.YtcfkpljmihijiaaW.PrintLast Go.Proofs.YtcfkpljmihijiaaW.PrintMore
set_option linter.unusedVariables false
set_option linter.unusedSimpArgs false
def toHole (x : S27) : S36 := ⟨x.f0, x.f1⟩
theorem rdLHole_at (l : List S27) (i : Nat) (h : i < l.length) : rd_T27 l (i : Int) = l[i] := by
  unfold rd_T27
  rw [Int.toNat_natCast, List.getD_eq_getElem?_getD, List.getElem?_eq_getElem h]
  rfl
theorem rdHole_at (l : List S36) (i : Nat) (h : i < l.length) : rd_T36 l (i : Int) = l[i] := by
  unfold rd_T36
  rw [Int.toNat_natCast, List.getD_eq_getElem?_getD, List.getElem?_eq_getElem h]
  rfl
def shortH (l : List S36) : Prop := l.length ≤ 1048576 ∧ ∀ s ∈ l, s.f1.length ≤ 1048576
theorem shortH_at {l : List S36} (h : shortH l) (i : Nat) (hi : i < l.length) : (rd_T36 l (i : Int)).f1.length ≤ 1048576 := by
  rw [rdHole_at l i hi]
  exact h.2 _ (List.getElem_mem hi)
theorem toHoleS_loop (l : List S27) (hb : l.length ≤ 9223372036854775806) (hs : ∀ s ∈ l, s.f1.length ≤ 1048576) : ∀ (d k i : Nat) (acc : List S36), i + d = l.length → d + 1048576 < k → acc.length = l.length → acc.take i = (l.map toHole).take i → laws_toHoleS.l0 k l acc i = some (l.map toHole) := by
  intro d
  induction d with
  | zero =>
    intro k i acc hi hk ha ht
    obtain ⟨k, rfl⟩ : ∃ m, k = m + 1 := ⟨k - 1, by omega⟩
    simp only [laws_toHoleS.l0]
    rw [if_neg (by omega)]
    rw [List.take_of_length_le (by omega), List.take_of_length_le (by rw [List.length_map]; omega)] at ht
    rw [ht]
  | succ d ih =>
    intro k i acc hi hk ha ht
    obtain ⟨k, rfl⟩ : ∃ m, k = m + 1 := ⟨k - 1, by omega⟩
    have h1 : (rd_T27 l (i : Int)).f1.length ≤ 1048576 := by
      rw [rdLHole_at l i (by omega)]
      exact hs _ (List.getElem_mem _)
    simp only [laws_toHoleS.l0, laws_toHole.f]
    rw [if_pos (by omega), if_pos (by omega), toInt_is k _ (by omega) (by omega), bind_some_, bind_some_, if_pos (by omega), w64s i (by omega), Int.toNat_natCast]
    refine ih k (i + 1) _ (by omega) (by omega) (by rw [List.length_set]; exact ha) (fill_step (l.map toHole) acc i _ (by rw [List.length_map]; omega) (by rw [List.length_map]; exact ha) ht ?_)
    rw [List.getElem_map, rdLHole_at l i (by omega)]
    rfl
theorem toHoleS_is (k : Nat) (l : List S27) (hb : l.length ≤ 1048576) (hs : ∀ s ∈ l, s.f1.length ≤ 1048576) (hk : l.length + 1048576 < k) : laws_toHoleS.f k l = some (l.map toHole) := by
  unfold laws_toHoleS.f
  rw [if_pos (by omega), if_pos (by omega)]
  exact toHoleS_loop l (by omega) hs l.length k 0 _ (by omega) hk (by simp) (by simp)
theorem toHole_short {l : List S27} (hb : l.length ≤ 1048576) (hs : ∀ s ∈ l, s.f1.length ≤ 1048576) : shortH (l.map toHole) := by
  refine ⟨by rw [List.length_map]; exact hb, ?_⟩
  intro s h
  obtain ⟨t, h1, rfl⟩ := List.mem_map.mp h
  exact hs t h1
theorem szHoleS_loop (l : List S27) (hb : l.length ≤ 9223372036854775806) (hw : ∀ s ∈ l, s.f1.length ≤ 9223372036854775807) : ∀ (d k i : Nat) (left : Int), i + d = l.length → d < k → 0 ≤ left → left ≤ 1048576 → (∀ j : Nat, j < i → (rd_T27 l (j : Int)).f1.length ≤ 1048576) → ∃ r, laws_szHoleS.l0 k l left i = some r ∧ (r < 0 ∨ (0 ≤ r ∧ ∀ s ∈ l, s.f1.length ≤ 1048576)) := by
  intro d
  induction d with
  | zero =>
    intro k i left hi hk h0 h1 hj
    obtain ⟨k, rfl⟩ : ∃ m, k = m + 1 := ⟨k - 1, by omega⟩
    simp only [laws_szHoleS.l0]
    rw [if_neg (by omega)]
    refine ⟨_, rfl, Or.inr ⟨h0, ?_⟩⟩
    intro s hs
    obtain ⟨j, hj1, rfl⟩ := List.getElem_of_mem hs
    have := hj j (by omega)
    rwa [rdLHole_at l j hj1] at this
  | succ d ih =>
    intro k i left hi hk h0 h1 hj
    obtain ⟨k, rfl⟩ : ∃ m, k = m + 1 := ⟨k - 1, by omega⟩
    have h2 : (rd_T27 l (i : Int)).f1.length ≤ 9223372036854775807 := by
      rw [rdLHole_at l i (by omega)]
      exact hw _ (List.getElem_mem _)
    simp only [laws_szHoleS.l0, laws_szHole.f, laws_szInt64S.f]
    rw [if_pos (by omega), if_pos (by omega), w64 (left - ((rd_T27 l (i : Int)).f1.length : Int)) (by omega) (by omega), w64s i (by omega)]
    by_cases h3 : left - ((rd_T27 l (i : Int)).f1.length : Int) < 0
    · rw [if_pos h3, bind_some_, if_pos (by omega), bind_some_, if_pos (by omega)]
      exact ⟨_, rfl, Or.inl (by omega)⟩
    · rw [if_neg h3, bind_some_, if_neg h3, bind_some_, if_neg h3]
      refine ih k (i + 1) _ (by omega) (by omega) (by omega) (by omega) ?_
      intro j hj2
      by_cases e : j = i
      · rw [e]; omega
      · exact hj j (by omega)
theorem szHoleS_is (k : Nat) (l : List S27) (left : Int) (hb : l.length ≤ 9223372036854775807) (hw : ∀ s ∈ l, s.f1.length ≤ 9223372036854775807) (hl : 0 ≤ left) (hl2 : left ≤ 1048576) (hk : 1048577 < k) : ∃ r, laws_szHoleS.f k l left = some r ∧ (r < 0 ∨ (l.length ≤ 1048576 ∧ ∀ s ∈ l, s.f1.length ≤ 1048576)) := by
  unfold laws_szHoleS.f
  rw [w64 (left - (l.length : Int)) (by omega) (by omega)]
  by_cases h3 : left - (l.length : Int) < 0
  · rw [if_pos h3]
    exact ⟨_, rfl, Or.inl (by omega)⟩
  · rw [if_neg h3]
    obtain ⟨r, hr, hs⟩ := szHoleS_loop l (by omega) hw l.length k 0 (left - (l.length : Int)) (by omega) (by omega) (by omega) (by omega) (by intro j hj; omega)
    exact ⟨r, hr, hs.imp id (fun h => ⟨by omega, h.2⟩)⟩
theorem eqHoleS_loop (a : List S36) (hs : shortH a) : ∀ (d k i : Nat), i + d = a.length → d + 1048576 < k → laws_eqHoleS.l0 k a a i = some true := by
  intro d
  have hb := hs.1
  induction d with
  | zero =>
    intro k i hi hk
    obtain ⟨k, rfl⟩ : ∃ m, k = m + 1 := ⟨k - 1, by omega⟩
    simp only [laws_eqHoleS.l0]
    rw [if_neg (by omega)]
  | succ d ih =>
    intro k i hi hk
    obtain ⟨k, rfl⟩ : ∃ m, k = m + 1 := ⟨k - 1, by omega⟩
    have h1 := shortH_at hs i (by omega)
    simp only [laws_eqHoleS.l0, laws_eqHole.f, if_true]
    rw [if_pos (by omega), if_pos (by omega), if_pos (by omega), eqInt_is k _ _ (by omega) (by omega), bind_some_, if_pos (decide_eq_true rfl), bind_some_, if_pos rfl, w64s i (by omega)]
    exact ih k (i + 1) (by omega) (by omega)
theorem eqHoleS_refl (k : Nat) (a : List S36) (hs : shortH a) (hk : a.length + 1048576 < k) : laws_eqHoleS.f k a a = some true := by
  unfold laws_eqHoleS.f
  rw [if_pos rfl]
  exact eqHoleS_loop a hs a.length k 0 (by omega) hk
theorem szHoleS_le0 (l : List S27) (hb : l.length ≤ 9223372036854775806) (hw : ∀ s ∈ l, s.f1.length ≤ 9223372036854775807) : ∀ (d k i : Nat) (left : Int), i + d = l.length → d < k → 0 ≤ left → left ≤ 1048576 → ∀ r, laws_szHoleS.l0 k l left i = some r → r ≤ 1048576 := by
  intro d
  induction d with
  | zero =>
    intro k i left hi hk h0 h1 r hr
    obtain ⟨k, rfl⟩ : ∃ m, k = m + 1 := ⟨k - 1, by omega⟩
    simp only [laws_szHoleS.l0] at hr
    rw [if_neg (by omega)] at hr
    have := Option.some.inj hr
    omega
  | succ d ih =>
    intro k i left hi hk h0 h1 r hr
    obtain ⟨k, rfl⟩ : ∃ m, k = m + 1 := ⟨k - 1, by omega⟩
    have h2 : (rd_T27 l (i : Int)).f1.length ≤ 9223372036854775807 := by
      rw [rdLHole_at l i (by omega)]
      exact hw _ (List.getElem_mem _)
    simp only [laws_szHoleS.l0, laws_szHole.f, laws_szInt64S.f] at hr
    rw [if_pos (by omega), if_pos (by omega), w64 (left - ((rd_T27 l (i : Int)).f1.length : Int)) (by omega) (by omega), w64s i (by omega)] at hr
    by_cases h3 : left - ((rd_T27 l (i : Int)).f1.length : Int) < 0
    · rw [if_pos h3, bind_some_, if_pos (by omega), bind_some_, if_pos (by omega)] at hr
      have := Option.some.inj hr
      omega
    · rw [if_neg h3, bind_some_, if_neg h3, bind_some_, if_neg h3] at hr
      exact ih k (i + 1) _ (by omega) (by omega) (by omega) (by omega) r hr
theorem szHoleS_le (k : Nat) (l : List S27) (left : Int) (hb : l.length ≤ 9223372036854775807) (hw : ∀ s ∈ l, s.f1.length ≤ 9223372036854775807) (hl : 0 ≤ left) (hl2 : left ≤ 1048576) (hk : 1048577 < k) (r : Int) (hr : laws_szHoleS.f k l left = some r) : r ≤ 1048576 := by
  unfold laws_szHoleS.f at hr
  rw [w64 (left - (l.length : Int)) (by omega) (by omega)] at hr
  by_cases h3 : left - (l.length : Int) < 0
  · rw [if_pos h3] at hr
    have := Option.some.inj hr
    omega
  · rw [if_neg h3] at hr
    exact szHoleS_le0 l (by omega) hw l.length k 0 _ (by omega) (by omega) (by omega) (by omega) r hr

end Go.Proofs.Ytcfkpljmihijiaa.P

