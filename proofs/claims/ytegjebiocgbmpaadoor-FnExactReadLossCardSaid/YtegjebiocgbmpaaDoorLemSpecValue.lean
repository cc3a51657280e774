/- The reference's number with a text is the library's. -/
import Derived.Test.YtegjebiocgbmpaaDoorLemCore
import Derived.Test.YtegjebiocgbmpaaDoorLemDec
import Derived.Test.YtegjebiocgbmpaaDoorLemIn
import Derived.Test.YtegjebiocgbmpaaDoorLemValue
import Derived.Test.YtegjebiocgbmpaaDoorPx8
namespace Go.Proofs.YtegjebiocgbmpaaDoor.P
open Go.RowKit Go.Proofs.YtegjebiocgbmpaaDoor.P Go.Proofs.YtegjebiocgbmpaaDoorW.PrintWords Go.Proofs.YtegjebiocgbmpaaDoorW.PrintLast Go.Proofs.YtegjebiocgbmpaaDoorW.PrintMore
set_option linter.unusedVariables false
set_option linter.unusedSimpArgs false
theorem bt_at (l : List UInt8) (i : Nat) (h : i < l.length) : bt (tx l) (i : Int) = (l[i].toNat : Int) := by
  unfold bt
  have h2 : ((i : Int)).toNat < (tx l).size := by rw [tx_size, Int.toNat_natCast]; exact h
  rw [dif_pos h2]
  rfl
def dgo (acc : Int) : List UInt8 → Option Int
  | [] => some acc
  | c :: r => if c.toNat < 48 ∨ 57 < c.toNat then none else dgo (wrap64 (wrap64 (10 * acc) + (((c.toNat : Int) - 48) % 256))) r
def fin (l : List UInt8) (v : Int) : Int × Bool := if -1000000000 ≤ v ∧ v ≤ 1000000000 then (if Lib.itoa v = l then (v, true) else (0, false)) else (0, false)
def valP (l : List UInt8) : Int × Bool :=
  if l.length = 0 ∨ 11 < l.length then (0, false) else
  if l.head? = some 45 then (match dgo 0 (l.drop 1) with | none => (0, false) | some v => fin l (wrap64 (-v))) else (match dgo 0 l with | none => (0, false) | some v => fin l v)
theorem value_j3 (l : List UInt8) (k : Nat) (v : Int) (hk : 40 < k) : spec_l01Value.j3 k (tx l) v = some (fin l v) := by
  obtain ⟨k, rfl⟩ : ∃ m, k = m + 1 := ⟨k - 1, by omega⟩
  simp only [spec_l01Value.j3, in_is, bind_some_]
  unfold fin
  by_cases h : -1000000000 ≤ v ∧ v ≤ 1000000000
  · rw [decide_eq_true h, if_pos rfl, if_pos h, specDec_is k v (by omega) (by omega), bind_some_]
    unfold dd
    rw [tx_toList, tx_toList]
    split <;> rfl
  · rw [decide_eq_false h, if_neg (by simp), if_neg h]
theorem value_l0 (l : List UInt8) (hl : l.length ≤ 1000000) (from_ : Int) : ∀ (d k i : Nat) (acc : Int), i + d = l.length → d + 42 < k → spec_l01Value.l0 k (tx l) acc from_ i = some (match dgo acc (l.drop i) with | none => (0, false) | some v => if from_ = 1 then fin l (wrap64 (-v)) else fin l v) := by
  intro d
  induction d with
  | zero =>
    intro k i acc hi hk
    obtain ⟨k, rfl⟩ : ∃ m, k = m + 1 := ⟨k - 1, by omega⟩
    simp only [spec_l01Value.l0]
    rw [tx_size, if_neg (by omega), List.drop_of_length_le (by omega), value_j3 l k _ (by omega), value_j3 l k _ (by omega)]
    simp only [dgo]
    split <;> rfl
  | succ d ih =>
    intro k i acc hi hk
    obtain ⟨k, rfl⟩ : ∃ m, k = m + 1 := ⟨k - 1, by omega⟩
    have hlt : i < l.length := by omega
    simp only [spec_l01Value.l0]
    rw [tx_size, if_pos (by omega), if_pos (by omega), bt_at l i hlt, List.drop_eq_getElem_cons hlt]
    simp only [dgo]
    by_cases h1 : ((l[i].toNat : Nat) : Int) < 48
    · rw [if_pos h1, if_pos (by omega)]
    · rw [if_neg h1]
      by_cases h2 : ((l[i].toNat : Nat) : Int) > 57
      · rw [if_pos h2, if_pos (by omega)]
      · rw [if_neg h2, if_neg (by omega), w64s i (by omega)]
        exact ih k (i + 1) _ (by omega) (by omega)
theorem specValue_valP (l : List UInt8) (k : Nat) (hk : 100 < k) (hl : l.length ≤ 9223372036854775806) : spec_l01Value.f k (tx l) = some (valP l) := by
  obtain ⟨k, rfl⟩ : ∃ m, k = m + 2 := ⟨k - 2, by omega⟩
  unfold spec_l01Value.f valP
  rw [tx_size]
  by_cases h0 : l.length = 0
  · rw [if_pos (by omega), if_pos (Or.inl h0)]
    simp only [spec_l01Value.j0]
    rw [if_pos trivial]
  · rw [if_neg (by omega)]
    simp only [spec_l01Value.j0]
    by_cases h1 : 11 < l.length
    · rw [if_pos (decide_eq_true (by omega)), if_pos (Or.inr h1)]
    · rw [if_neg (by simp; omega), tx_size, if_pos (by omega), if_neg (show ¬ (l.length = 0 ∨ 11 < l.length) by omega)]
      have hb := bt_at l 0 (by omega)
      rw [show ((0 : Nat) : Int) = 0 from rfl] at hb
      rw [hb]
      cases l with
      | nil => simp at h0
      | cons c r =>
        simp only [List.getElem_cons_zero, List.head?_cons, Option.some.injEq, spec_l01Value.j1]
        by_cases hc : c = 45
        · subst hc
          have := value_l0 (45 :: r) (by omega) 1 r.length k 1 0 (by simp only [List.length_cons]; omega) (by simp only [List.length_cons] at h1; omega)
          rw [show ((1 : Nat) : Int) = 1 from rfl] at this
          rw [if_pos (by decide), if_pos rfl, this]
          simp only [List.drop_succ_cons, List.drop_zero, if_true]
        · have := value_l0 (c :: r) (by omega) 0 (r.length + 1) k 0 0 (by simp only [List.length_cons]; omega) (by simp only [List.length_cons] at h1; omega)
          rw [show ((0 : Nat) : Int) = 0 from rfl] at this
          rw [if_neg (fun z => hc (UInt8.toNat_inj.mp (by rw [show (45 : UInt8).toNat = 45 from rfl]; omega))), if_neg hc, this]
          simp only [List.drop_zero]
          rfl
theorem dgo_dec : ∀ (F m : Nat), m < F → m ≤ 100000000000 → ∀ r, dgo 0 (Lib.decDigits m ++ r) = dgo (m : Int) r := by
  intro F
  induction F with
  | zero => intro m h; omega
  | succ F ih =>
    intro m hm hb r
    have hlt := Nat.mod_lt m (show 0 < 10 by decide)
    have hd : (UInt8.ofNat (48 + m % 10)).toNat = 48 + m % 10 := by rw [UInt8.toNat_ofNat']; omega
    by_cases h : m < 10
    · rw [decDigits_low h, List.singleton_append]
      simp only [dgo]
      rw [hd, if_neg (by omega), w64 (10 * 0) (by omega) (by omega), w64 _ (by omega) (by omega), show (10 * 0 + (((48 + m % 10 : Nat) : Int) - 48) % 256) = (m : Int) by omega]
    · rw [decDigits_more h, List.append_assoc, ih (m / 10) (by omega) (by omega), List.singleton_append]
      simp only [dgo]
      rw [hd, if_neg (by omega), w64 (10 * ((m / 10 : Nat) : Int)) (by omega) (by omega), w64 _ (by omega) (by omega), show (10 * ((m / 10 : Nat) : Int) + (((48 + m % 10 : Nat) : Int) - 48) % 256) = (m : Int) by omega]
theorem nDig_le : ∀ (d m : Nat), m < 10 ^ (d + 1) → Lib.nDigits m ≤ d + 1
  | 0, m, h => by rw [Lib.nDigits_small (by simpa using h)]; omega
  | d + 1, m, h => by
    by_cases c : m < 10
    · rw [Lib.nDigits_small c]; omega
    · have := nDig_le d (m / 10) (by rw [Nat.pow_succ] at h; omega)
      rw [Lib.nDigits_big c]
      omega
theorem dec_len10 (m : Nat) (h : m ≤ 1000000000) : 1 ≤ (Lib.decDigits m).length ∧ (Lib.decDigits m).length ≤ 10 := by
  rw [Lib.decDigits_length]
  exact ⟨Lib.nDigits_pos m, nDig_le 9 m (by omega)⟩
theorem valP_itoa (n : Int) (h : -1000000000 ≤ n ∧ n ≤ 1000000000) : valP (Lib.itoa n) = (n, true) := by
  have hfin : fin (Lib.itoa n) n = (n, true) := by
    unfold fin
    rw [if_pos h, if_pos rfl]
  unfold valP
  by_cases c : n < 0
  · obtain ⟨m, e⟩ : ∃ m : Nat, n = -(m : Int) := ⟨n.natAbs, by omega⟩
    have hl := dec_len10 m (by omega)
    have ei : Lib.itoa n = 45 :: Lib.decDigits m := by
      unfold Lib.itoa
      rw [if_pos c, show n.natAbs = m by omega]
    have hd := dgo_dec (m + 1) m (by omega) (by omega) []
    rw [List.append_nil] at hd
    rw [ei] at hfin ⊢
    rw [if_neg (by simp only [List.length_cons]; omega), List.head?_cons, if_pos rfl, List.drop_succ_cons, List.drop_zero, hd]
    simp only [dgo]
    rw [w64 _ (by omega) (by omega), ← e, hfin]
  · obtain ⟨m, e⟩ : ∃ m : Nat, n = (m : Int) := ⟨n.toNat, by omega⟩
    have hl := dec_len10 m (by omega)
    have ei : Lib.itoa n = Lib.decDigits m := by
      unfold Lib.itoa
      rw [if_neg c, show n.toNat = m by omega]
    have hd := dgo_dec (m + 1) m (by omega) (by omega) []
    rw [List.append_nil] at hd
    rw [ei] at hfin ⊢
    have hne : ¬ (Lib.decDigits m).head? = some 45 := fun z => by
      cases hq : Lib.decDigits m with
      | nil => exact dec_ne m hq
      | cons x r =>
        rw [hq, List.head?_cons, Option.some.injEq] at z
        have := dec_digits (m + 1) m (by omega) x (by rw [hq]; simp)
        rw [z, show (45 : UInt8).toNat = 45 from rfl] at this
        omega
    rw [if_neg (by omega), if_neg hne, hd]
    simp only [dgo]
    rw [← e, hfin]
theorem fin_true {l : List UInt8} {v : Int} (h : (fin l v).2 = true) : fin l v = (v, true) ∧ Lib.itoa v = l ∧ -1000000000 ≤ v ∧ v ≤ 1000000000 := by
  unfold fin at h ⊢
  split at h
  · rename_i hb
    split at h
    · rename_i he
      rw [if_pos hb, if_pos he]
      exact ⟨rfl, he, hb⟩
    · cases h
  · cases h
theorem fin_shape (l : List UInt8) (v : Int) : fin l v = (0, false) ∨ ∃ n, fin l v = (n, true) ∧ Lib.itoa n = l ∧ -1000000000 ≤ n ∧ n ≤ 1000000000 := by
  cases h : (fin l v).2 with
  | true => exact Or.inr ⟨v, fin_true h⟩
  | false =>
    left
    unfold fin at h ⊢
    split
    · rename_i hb
      rw [if_pos hb] at h
      split
      · rename_i he
        rw [if_pos he] at h
        cases h
      · rfl
    · rfl
theorem valP_shape (l : List UInt8) : valP l = (0, false) ∨ ∃ n, valP l = (n, true) ∧ Lib.itoa n = l ∧ -1000000000 ≤ n ∧ n ≤ 1000000000 := by
  unfold valP
  split
  · exact Or.inl rfl
  · split
    · cases dgo 0 (l.drop 1) with
      | none => exact Or.inl rfl
      | some v => exact fin_shape l _
    · cases dgo 0 l with
      | none => exact Or.inl rfl
      | some v => exact fin_shape l _
theorem valP_is (l : List UInt8) : valP l = valIn (-1000000000) 1000000000 l := by
  rcases valP_shape l with e | ⟨n, e, h1, h2⟩
  · rw [e]
    cases hb : (valIn (-1000000000) 1000000000 l).2 with
    | true =>
      obtain ⟨g1, _, g2⟩ := valIn_true hb
      have := valP_itoa _ g2
      rw [g1, e] at this
      exact absurd (congrArg Prod.snd this) (by simp)
    | false =>
      unfold valIn at hb ⊢
      cases hd : decOf l with
      | none => rfl
      | some v =>
        rw [hd] at hb
        dsimp only at hb ⊢
        split at hb
        · cases hb
        · rename_i q
          rw [if_neg q]
  · rw [e, ← h1, valIn_itoa (by omega) h2]
theorem specValue_is (l : List UInt8) (k : Nat) (hk : 100 < k) (hl : l.length ≤ 9223372036854775806) : spec_l01Value.f k (tx l) = some (valIn (-1000000000) 1000000000 l) := by
  rw [specValue_valP l k hk hl, valP_is]

end Go.Proofs.YtegjebiocgbmpaaDoor.P
