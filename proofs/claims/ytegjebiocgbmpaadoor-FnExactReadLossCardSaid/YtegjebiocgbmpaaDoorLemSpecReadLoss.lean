/- The loss with a text, as the reference reads it. -/
import Derived.Test.YtegjebiocgbmpaaDoorLemCore
import Derived.Test.YtegjebiocgbmpaaDoorLemCut
import Derived.Test.YtegjebiocgbmpaaDoorLemDec
import Derived.Test.YtegjebiocgbmpaaDoorLemLossText
import Derived.Test.YtegjebiocgbmpaaDoorLemLosses
import Derived.Test.YtegjebiocgbmpaaDoorLemReadLoss
import Derived.Test.YtegjebiocgbmpaaDoorLemSpecLosses
import Derived.Test.YtegjebiocgbmpaaDoorLemSpecValue
import Derived.Test.YtegjebiocgbmpaaDoorLemValue
import Derived.Test.YtegjebiocgbmpaaDoorPx10
import Derived.Test.YtegjebiocgbmpaaDoorPx9
namespace Go.Proofs.YtegjebiocgbmpaaDoor.P
open Go.RowKit Go.Proofs.YtegjebiocgbmpaaDoor.P Go.Proofs.YtegjebiocgbmpaaDoorW.PrintWords Go.Proofs.YtegjebiocgbmpaaDoorW.PrintLast Go.Proofs.YtegjebiocgbmpaaDoorW.PrintMore
set_option linter.unusedVariables false
set_option linter.unusedSimpArgs false
def isDig (c : UInt8) : Bool := decide (48 ≤ c.toNat ∧ c.toNat ≤ 57)
def digL : List UInt8 → List UInt8 → List Int → List Int
  | [], cur, out => if cur = [] then out else if (v9 cur).2 = true then out ++ [(v9 cur).1] else []
  | c :: r, cur, out => if isDig c = true then digL r (cur ++ [c]) out else if cur = [] then digL r [] out else if (v9 cur).2 = true then digL r [] (out ++ [(v9 cur).1]) else []
def curAt (s : List UInt8) (i : Nat) (x4 : Int) (cur : List UInt8) : Prop := (x4 = -1 ∧ cur = []) ∨ ∃ f : Nat, x4 = (f : Int) ∧ f < i ∧ cur = (s.drop f).take (i - f)
theorem cur_ne {s : List UInt8} {i f : Nat} (hi : i ≤ s.length) (hf : f < i) : (s.drop f).take (i - f) ≠ [] := fun e => by
  have := congrArg List.length e
  rw [List.length_take, List.length_drop, List.length_nil] at this
  omega
theorem dig_j4 (s : List UInt8) (hs : s.length ≤ 1048576) (k : Nat) (out : List Int) (i f : Nat) (hi : i ≤ s.length) (hf : f < i) (ho : out.length ≤ 2000000) (hk : 200 < k) : spec_l07Digits.j4 k (tx s) out f i true = if (v9 ((s.drop f).take (i - f))).2 = true then spec_l07Digits.l0 (k - 1) (tx s) (out ++ [(v9 ((s.drop f).take (i - f))).1]) (-1) ((i + 1 : Nat) : Int) else some [] := by
  obtain ⟨k, rfl⟩ : ∃ m, k = m + 1 := ⟨k - 1, by omega⟩
  simp only [spec_l07Digits.j4]
  have hl : ((s.drop f).take (i - f)).length ≤ 1048576 := by rw [List.length_take, List.length_drop]; omega
  rw [if_pos trivial, if_pos (by omega), if_pos (by omega), tx_size, if_pos (by omega), Int.toNat_natCast, Int.toNat_natCast, ext_tx, specValue_is _ k (by omega) (by omega), bind_some_, show valIn (-1000000000) 1000000000 ((s.drop f).take (i - f)) = v9 ((s.drop f).take (i - f)) from rfl, w64s i (by omega), if_pos (show out.length < 17592186044416 by omega)]
  rfl
theorem dig_l0 (s : List UInt8) (hs : s.length ≤ 1048576) : ∀ (d k i : Nat) (x4 : Int) (cur : List UInt8) (out : List Int), i + d = s.length → 5 * d + 300 < k → out.length ≤ i → curAt s i x4 cur → spec_l07Digits.l0 k (tx s) out x4 i = some (digL (s.drop i) cur out) := by
  intro d
  induction d with
  | zero =>
    intro k i x4 cur out hi hk ho hc
    obtain ⟨k, rfl⟩ : ∃ m, k = m + 6 := ⟨k - 6, by omega⟩
    have hend : ∀ (q : Nat) (o : List Int) (y : Int), 1 ≤ q → spec_l07Digits.l0 q (tx s) o y ((i + 1 : Nat) : Int) = some o := fun q o y hq => by
      obtain ⟨q, rfl⟩ : ∃ m, q = m + 1 := ⟨q - 1, by omega⟩
      simp only [spec_l07Digits.l0]
      rw [tx_size, if_neg (by omega)]
    rw [List.drop_of_length_le (by omega)]
    simp only [digL, spec_l07Digits.l0]
    rw [tx_size, if_pos (by omega), if_neg (by omega)]
    simp only [spec_l07Digits.j1]
    rw [if_neg (by simp)]
    simp only [spec_l07Digits.j2]
    rw [if_neg (by simp)]
    simp only [spec_l07Digits.j3]
    rw [if_neg (by simp)]
    rcases hc with ⟨e1, e2⟩ | ⟨f, e1, e2, e3⟩
    · rw [e1, e2, if_pos rfl, decide_eq_false (by omega)]
      simp only [spec_l07Digits.j4]
      rw [if_neg (by simp), w64s i (by omega), hend _ _ _ (by omega)]
    · rw [e1, e3, decide_eq_true (by omega), dig_j4 s hs _ out i f (by omega) e2 (by omega) (by omega), if_neg (cur_ne (by omega) e2)]
      by_cases h : (v9 ((s.drop f).take (i - f))).2 = true
      · rw [if_pos h, if_pos h, hend _ _ _ (by omega)]
      · rw [if_neg h, if_neg h]
  | succ d ih =>
    intro k i x4 cur out hi hk ho hc
    obtain ⟨k, rfl⟩ : ∃ m, k = m + 5 := ⟨k - 5, by omega⟩
    have hlt : i < s.length := by omega
    rw [List.drop_eq_getElem_cons hlt]
    simp only [digL, spec_l07Digits.l0]
    rw [tx_size, if_pos (by omega), if_pos (by omega), if_pos (by omega), bt_at s i hlt]
    have hnd : ∀ q, 5 * d + 301 < q → spec_l07Digits.j1 (q + 3) (tx s) out x4 i false = some (if cur = [] then digL (s.drop (i + 1)) [] out else if (v9 cur).2 = true then digL (s.drop (i + 1)) [] (out ++ [(v9 cur).1]) else []) := fun q hq => by
      simp only [spec_l07Digits.j1]
      rw [if_neg (by simp)]
      simp only [spec_l07Digits.j2]
      rw [if_neg (by simp)]
      simp only [spec_l07Digits.j3]
      rw [if_neg (by simp)]
      rcases hc with ⟨e1, e2⟩ | ⟨f, e1, e2, e3⟩
      · obtain ⟨q, rfl⟩ : ∃ m, q = m + 1 := ⟨q - 1, by omega⟩
        rw [e1, e2, if_pos rfl, decide_eq_false (by omega)]
        simp only [spec_l07Digits.j4]
        rw [if_neg (by simp), w64s i (by omega)]
        exact ih q (i + 1) (-1) [] out (by omega) (by omega) (by omega) (Or.inl ⟨rfl, rfl⟩)
      · rw [e1, e3, decide_eq_true (by omega), dig_j4 s hs _ out i f (by omega) e2 (by omega) (by omega), if_neg (cur_ne (by omega) e2)]
        by_cases h : (v9 ((s.drop f).take (i - f))).2 = true
        · rw [if_pos h, if_pos h]
          exact ih (q - 1) (i + 1) (-1) [] _ (by omega) (by omega) (by rw [List.length_append, List.length_singleton]; omega) (Or.inl ⟨rfl, rfl⟩)
        · rw [if_neg h, if_neg h]
    by_cases h1 : ((s[i].toNat : Nat) : Int) ≥ 48
    · rw [if_pos h1]
      by_cases h2 : ((s[i].toNat : Nat) : Int) ≤ 57
      · have hg : isDig s[i] = true := by unfold isDig; exact decide_eq_true (by omega)
        rw [hg, if_pos rfl, decide_eq_true h2]
        simp only [spec_l07Digits.j1]
        rw [if_pos trivial]
        simp only [spec_l07Digits.j2]
        rcases hc with ⟨e1, e2⟩ | ⟨f, e1, e2, e3⟩
        · rw [e1, e2, decide_eq_true (by omega), if_pos rfl]
          simp only [spec_l07Digits.j3]
          rw [if_pos trivial]
          simp only [spec_l07Digits.j4]
          rw [if_neg (by simp), w64s i (by omega)]
          refine ih k (i + 1) i _ out (by omega) (by omega) (by omega) (Or.inr ⟨i, rfl, by omega, ?_⟩)
          rw [show i + 1 - i = 1 by omega, List.drop_eq_getElem_cons hlt]
          rfl
        · rw [e1, e3, decide_eq_false (by omega), if_neg (by simp)]
          simp only [spec_l07Digits.j3]
          rw [if_pos trivial]
          simp only [spec_l07Digits.j4]
          rw [if_neg (by simp), w64s i (by omega)]
          refine ih k (i + 1) f _ out (by omega) (by omega) (by omega) (Or.inr ⟨f, rfl, by omega, ?_⟩)
          rw [show i + 1 - f = (i - f) + 1 by omega, List.take_add_one, List.getElem?_drop, show f + (i - f) = i by omega, List.getElem?_eq_getElem hlt]
          rfl
      · have hg : isDig s[i] = false := by unfold isDig; exact decide_eq_false (by omega)
        rw [hg, if_neg (by simp), decide_eq_false h2]
        exact hnd (k + 1) (by omega)
    · have hg : isDig s[i] = false := by unfold isDig; exact decide_eq_false (by omega)
      rw [if_neg h1, hg, if_neg (by simp)]
      exact hnd (k + 1) (by omega)
theorem digs_is (k : Nat) (s : List UInt8) (hs : s.length ≤ 1048576) (hk : 5 * s.length + 300 < k) : spec_l07Digits.f k (tx s) = some (digL s [] []) := by
  unfold spec_l07Digits.f
  exact dig_l0 s hs s.length k 0 (-1) [] [] (by omega) (by omega) (by simp) (Or.inl ⟨rfl, rfl⟩)
def rdS (s : List UInt8) : Int × Int × Int × Bool := if (digL s [] []).length = 3 then okL s (rd (digL s [] []) 0) (rd (digL s [] []) 1) (rd (digL s [] []) 2) else zL
theorem digL_app : ∀ (p r cur : List UInt8) (out : List Int), (∀ c ∈ p, isDig c = true) → digL (p ++ r) cur out = digL r (cur ++ p) out
  | [], r, cur, out, _ => by rw [List.append_nil, List.nil_append]
  | c :: p, r, cur, out, h => by
    rw [List.cons_append]
    simp only [digL]
    rw [if_pos (h c (by simp)), digL_app p r (cur ++ [c]) out (fun z hz => h z (by simp [hz]))]
    simp
theorem itoa_dig {n : Int} (h : 0 ≤ n) : (∀ c ∈ Lib.itoa n, isDig c = true) ∧ Lib.itoa n ≠ [] := by
  unfold Lib.itoa
  rw [if_neg (by omega)]
  refine ⟨fun c hc => ?_, dec_ne _⟩
  have := dec_digits (n.toNat + 1) n.toNat (by omega) c hc
  unfold isDig
  exact decide_eq_true (by omega)
theorem v9_itoa {n : Int} (h : 0 ≤ n ∧ n ≤ 1000000000) : v9 (Lib.itoa n) = (n, true) := valIn_itoa (by omega) (by omega)
theorem digL_text {a b c : Int} (ha : 0 ≤ a ∧ a ≤ 1000000000) (hb : 0 ≤ b ∧ b ≤ 1000000000) (hc : 0 ≤ c ∧ c ≤ 1000000000) : digL (lossL a b c) [] [] = [a, b, c] := by
  have e1 : lossL a b c = 64 :: (Lib.itoa a ++ (32 :: (Lib.itoa b ++ (108 :: 47 :: (Lib.itoa c ++ []))))) := by
    unfold lossL
    simp
  have d1 : isDig 64 = false := by decide
  have d2 : isDig 32 = false := by decide
  have d3 : isDig 108 = false := by decide
  have d4 : isDig 47 = false := by decide
  rw [e1]
  simp only [digL]
  rw [d1, if_neg (by simp), if_pos trivial, digL_app _ _ _ _ (itoa_dig ha.1).1, List.nil_append]
  simp only [digL]
  rw [d2, if_neg (by simp), if_neg (itoa_dig ha.1).2, v9_itoa ha, if_pos rfl, digL_app _ _ _ _ (itoa_dig hb.1).1, List.nil_append]
  simp only [digL]
  rw [d3, if_neg (by simp), if_neg (itoa_dig hb.1).2, v9_itoa hb, if_pos rfl, d4, if_neg (by simp), if_pos trivial, digL_app _ _ _ _ (itoa_dig hc.1).1, List.nil_append]
  simp only [digL]
  rw [if_neg (itoa_dig hc.1).2, v9_itoa hc, if_pos rfl]
  rfl
theorem rdS_text {a b c : Int} (h : lsValid [⟨a, b, c⟩] = true) : rdS (lossL a b c) = (a, b, c, true) := by
  obtain ⟨h1, h2, h3, h4⟩ := lsValid_in h
  unfold rdS
  rw [digL_text (by omega) (by omega) (by omega), if_pos (show [a, b, c].length = 3 from rfl)]
  show okL (lossL a b c) a b c = _
  unfold okL
  rw [if_pos h, if_pos rfl]
theorem rdS_shape (s : List UInt8) : rdS s = zL ∨ ∃ a b c, rdS s = (a, b, c, true) ∧ lsValid [⟨a, b, c⟩] = true ∧ lossL a b c = s := by
  unfold rdS
  split
  · rcases okL_shape s (rd (digL s [] []) 0) (rd (digL s [] []) 1) (rd (digL s [] []) 2) with e | ⟨e, h1, h2⟩
    · exact Or.inl e
    · exact Or.inr ⟨_, _, _, e, h1, h2⟩
  · exact Or.inl rfl
theorem rdS_rdI (s : List UInt8) : rdS s = rdI s := by
  rcases rdS_shape s with e | ⟨a, b, c, e, h1, h2⟩
  · rcases rdI_shape s with f | ⟨a, b, c, f, h1, h2⟩
    · rw [e, f]
    · have := rdS_text h1
      rw [h2, e] at this
      exact absurd (congrArg (fun z => z.2.2.2) this) (by simp [zL])
  · have := rdI_text h1
    rw [h2] at this
    rw [e, this]
theorem digL_i64 : ∀ (s cur : List UInt8) (out : List Int), (∀ v ∈ out, i64R v) → ∀ v ∈ digL s cur out, i64R v
  | [], cur, out, h => by
    simp only [digL]
    split
    · exact h
    · split
      · intro v hv
        rcases List.mem_append.mp hv with e | e
        · exact h v e
        · rw [List.mem_singleton.mp e]; exact v9_in cur
      · intro v hv; simp at hv
  | c :: r, cur, out, h => by
    simp only [digL]
    split
    · exact digL_i64 r _ out h
    · split
      · exact digL_i64 r _ out h
      · split
        · refine digL_i64 r _ _ (fun v hv => ?_)
          rcases List.mem_append.mp hv with e | e
          · exact h v e
          · rw [List.mem_singleton.mp e]; exact v9_in cur
        · intro v hv; simp at hv
theorem specReadLoss_is (k : Nat) (s : List UInt8) (hs : s.length ≤ 1048576) (hk : 5 * s.length + 300 < k) : spec_ReadLoss.f k (tx s) = some (rdI s) := by
  rw [← rdS_rdI]
  unfold spec_ReadLoss.f rdS
  rw [digs_is k s hs hk, bind_some_]
  have hi := digL_i64 s [] [] (by simp)
  generalize digL s [] [] = l at hi
  by_cases h : l.length = 3
  · have r0 : rd l 0 = l[0] := rd_at l 0 (by omega)
    have r1 : rd l 1 = l[1] := rd_at l 1 (by omega)
    have r2 : rd l 2 = l[2] := rd_at l 2 (by omega)
    have i0 : i64R (rd l 0) := by rw [r0]; exact hi _ (List.getElem_mem _)
    have i1 : i64R (rd l 1) := by rw [r1]; exact hi _ (List.getElem_mem _)
    have i2 : i64R (rd l 2) := by rw [r2]; exact hi _ (List.getElem_mem _)
    rw [if_pos (by omega), if_pos (by omega), if_pos (by omega), if_pos (by omega), if_pos h, specLosses_is k _ (by simp) (by simp; omega), bind_some_]
    unfold okL
    by_cases c : lsValid [⟨rd l 0, rd l 1, rd l 2⟩] = true
    · rw [if_pos c, if_pos c, specLossT_is k _ _ _ i0 i1 i2 (by omega), bind_some_, lossT_tx, tx_toList, tx_toList]
      by_cases c7 : lossL (rd l 0) (rd l 1) (rd l 2) = s
      · rw [if_pos c7, if_pos c7]
      · rw [if_neg c7, if_neg c7]
        rfl
    · rw [if_neg c, if_neg c]
      rfl
  · rw [if_neg (by omega), if_neg h]
    rfl

end Go.Proofs.YtegjebiocgbmpaaDoor.P
