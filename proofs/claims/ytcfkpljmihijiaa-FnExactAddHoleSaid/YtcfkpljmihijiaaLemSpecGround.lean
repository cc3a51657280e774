/- What the reference asks of a ground. -/
import Derived.Test.YtcfkpljmihijiaaLemCore
import Derived.Test.YtcfkpljmihijiaaLemGround
import Derived.Test.YtcfkpljmihijiaaLemIn
import Derived.Test.YtcfkpljmihijiaaLemToHole
import Derived.Test.YtcfkpljmihijiaaLemUpTo
import Derived.Test.YtcfkpljmihijiaaPx0
import Derived.Test.YtcfkpljmihijiaaPx1
import Derived.Test.YtcfkpljmihijiaaPx2
namespace Go.Proofs.Ytcfkpljmihijiaa.P
open Go.RowKit Go.Proofs.Ytcfkpljmihijiaa.P Go.Proofs.YtcfkpljmihijiaaW.PrintWords Go.Proofs.YtcfkpljmihijiaaW.PrintLast Go.Proofs.YtcfkpljmihijiaaW.PrintMore
set_option linter.unusedVariables false
set_option linter.unusedSimpArgs false
theorem specTops_l0 (l : List Int) (n : Int) (hb : l.length ≤ 1048576) : ∀ (d k i : Nat), i + d = l.length → d < k → spec_l06Tops.l0 k l n i = some (upTo (fun j => decide (-100000 ≤ rd l (j : Int) ∧ rd l (j : Int) ≤ 100000) && dnOk l j) d i && decide ((l.length : Int) = n)) := by
  intro d
  induction d with
  | zero =>
    intro k i hi hk
    obtain ⟨k, rfl⟩ : ∃ m, k = m + 1 := ⟨k - 1, by omega⟩
    simp only [spec_l06Tops.l0]
    rw [if_neg (by omega)]
    by_cases h : (l.length : Int) = n <;> simp [upTo, h]
  | succ d ih =>
    intro k i hi hk
    obtain ⟨k, rfl⟩ : ∃ m, k = m + 1 := ⟨k - 1, by omega⟩
    have hz := ih k (i + 1) (by omega) (by omega)
    simp only [spec_l06Tops.l0, in_is, bind_some_]
    rw [if_pos (by omega), if_pos (by omega), w64s i (by omega), hz]
    simp only [upTo, dnOk]
    by_cases h : i = 0
    · rw [if_neg (show ¬ (i : Int) > 0 by omega), decide_eq_true h, ite_tt]
      simp [Bool.and_assoc]
    · have e : wrap64 ((i : Int) - 1) = ((i - 1 : Nat) : Int) := by rw [w64 _ (by omega) (by omega)]; omega
      have e2 : (!decide (rd l ((i - 1 : Nat) : Int) < rd l (i : Int))) = decide (rd l (i : Int) ≤ rd l ((i - 1 : Nat) : Int)) := by
        by_cases c : rd l ((i - 1 : Nat) : Int) < rd l (i : Int)
        · rw [decide_eq_true c, decide_eq_false (show ¬ rd l (i : Int) ≤ rd l ((i - 1 : Nat) : Int) by omega)]
          rfl
        · rw [decide_eq_false c, decide_eq_true (show rd l (i : Int) ≤ rd l ((i - 1 : Nat) : Int) by omega)]
          rfl
      rw [if_pos (show (i : Int) > 0 by omega), e, if_pos (show (0 : Int) ≤ ((i - 1 : Nat) : Int) by omega), if_pos (show ((i - 1 : Nat) : Int) < (l.length : Int) by omega), ite_ff, e2, ite_tt, decide_eq_false h, Bool.false_or]
      simp only [Bool.and_assoc]
theorem specTops_is (k : Nat) (l : List Int) (n : Int) (hb : l.length ≤ 1048576) (hk : l.length < k) : spec_l06Tops.f k l n = some (topsOk n l) := by
  unfold spec_l06Tops.f topsOk
  have h := specTops_l0 l n hb l.length k 0 (by omega) hk
  rw [show ((0 : Nat) : Int) = 0 from rfl] at h
  rw [h, upTo_and, all_upTo]
  congr 1
  ac_rfl
theorem specGround_l1 (ds : List Int) (hs : List S36) (hp : shortH hs) : ∀ (d k i : Nat), i + d = hs.length → d + 1048580 < k → spec_l06Is.l1 k i ds hs = some (upTo (holeOk ds.length hs) d i) := by
  intro d
  have hb := hp.1
  induction d with
  | zero =>
    intro k i hi hk
    obtain ⟨k, rfl⟩ : ∃ m, k = m + 1 := ⟨k - 1, by omega⟩
    simp only [spec_l06Is.l1]
    rw [if_neg (by omega)]
    rfl
  | succ d ih =>
    intro k i hi hk
    obtain ⟨k, rfl⟩ : ∃ m, k = m + 1 := ⟨k - 1, by omega⟩
    have h1 := shortH_at hp i (by omega)
    have hz := ih k (i + 1) (by omega) (by omega)
    simp only [spec_l06Is.l1, in_is, bind_some_]
    rw [if_pos (by omega), if_pos (by omega), specTops_is k _ _ h1 (by omega), bind_some_, w64s i (by omega), hz, ite_tt]
    simp only [upTo, holeOk]
    by_cases h : i = 0
    · rw [if_neg (show ¬ (i : Int) > 0 by omega), decide_eq_true h, ite_tt]
      simp [Bool.and_assoc]
    · have e : wrap64 ((i : Int) - 1) = ((i - 1 : Nat) : Int) := by rw [w64 _ (by omega) (by omega)]; omega
      rw [if_pos (show (i : Int) > 0 by omega), e, if_pos (show (0 : Int) ≤ ((i - 1 : Nat) : Int) by omega), if_pos (show ((i - 1 : Nat) : Int) < (hs.length : Int) by omega), ite_ff, not_ge_dec, ite_tt, decide_eq_false h, Bool.false_or]
      congr 1
      ac_rfl
theorem specGround_l0 (ds : List Int) (hs : List S36) (hp : shortH hs) (hd : ds.length ≤ 1048576) : ∀ (d k i : Nat), i + d = ds.length → d + 2200000 < k → spec_l06Is.l0 k i ds hs = some (upTo (fun j => decide (1 ≤ rd ds (j : Int) ∧ rd ds (j : Int) ≤ 3000)) d i && upTo (holeOk ds.length hs) hs.length 0) := by
  intro d
  have hb := hp.1
  induction d with
  | zero =>
    intro k i hi hk
    obtain ⟨k, rfl⟩ : ∃ m, k = m + 1 := ⟨k - 1, by omega⟩
    have h1 := specGround_l1 ds hs hp hs.length k 0 (by omega) (by omega)
    simp only [spec_l06Is.l0]
    rw [if_neg (by omega)]
    simpa [upTo] using h1
  | succ d ih =>
    intro k i hi hk
    obtain ⟨k, rfl⟩ : ∃ m, k = m + 1 := ⟨k - 1, by omega⟩
    have hz := ih k (i + 1) (by omega) (by omega)
    simp only [spec_l06Is.l0, in_is, bind_some_]
    rw [if_pos (by omega), if_pos (by omega), w64s i (by omega), hz, ite_tt]
    simp only [upTo, Bool.and_assoc]
theorem specGround_is (k : Nat) (ds : List Int) (hs : List S36) (hd : ds.length ≤ 1048576) (hp : shortH hs) (hk : 5000000 < k) : spec_l06Is.f k ds hs = some (grOk ds hs) := by
  have hb := hp.1
  obtain ⟨k, rfl⟩ : ∃ m, k = m + 1 := ⟨k - 1, by omega⟩
  have h0 := specGround_l0 ds hs hp hd ds.length k 0 (by omega) (by omega)
  unfold spec_l06Is.f grOk
  rw [in_is, bind_some_, in_is, bind_some_, all_upTo]
  simp only [spec_l06Is.j0]
  rw [show ((0 : Nat) : Int) = 0 from rfl] at h0
  rw [h0]
  generalize upTo (holeOk (ds.length : Int) hs) hs.length 0 = b1
  generalize upTo (fun j => decide (1 ≤ rd ds (j : Int) ∧ rd ds (j : Int) ≤ 3000)) ds.length 0 = b2
  generalize decide (1 ≤ (ds.length : Int) ∧ (ds.length : Int) ≤ 4) = b3
  generalize decide (1 ≤ (hs.length : Int) ∧ (hs.length : Int) ≤ 6) = b4
  cases b1 <;> cases b2 <;> cases b3 <;> cases b4 <;> rfl

end Go.Proofs.Ytcfkpljmihijiaa.P

