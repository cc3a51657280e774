/- The number with a text: what the library's parse and print say together. -/
import Derived.Test.YtegjebiocgbmpaaDoorLemDec
import Derived.Test.YtegjebiocgbmpaaDoorPx0
namespace Go.Proofs.YtegjebiocgbmpaaDoor.P
open Go.RowKit Go.Proofs.YtegjebiocgbmpaaDoor.P Go.Proofs.YtegjebiocgbmpaaDoorW.PrintWords Go.Proofs.YtegjebiocgbmpaaDoorW.PrintLast Go.Proofs.YtegjebiocgbmpaaDoorW.PrintMore
set_option linter.unusedVariables false
set_option linter.unusedSimpArgs false
theorem tx_toList (l : List UInt8) : (tx l).toList = l := by
  rw [ByteArray.toList_eq]
  exact tx_data l
theorem dec_digits : ∀ (F m : Nat), m < F → ∀ c ∈ Lib.decDigits m, 48 ≤ c.toNat ∧ c.toNat ≤ 57 := by
  intro F
  induction F with
  | zero => intro m h; omega
  | succ F ih =>
    intro m hm c hc
    have hlt := Nat.mod_lt m (show 0 < 10 by decide)
    have hd : ∀ c ∈ [UInt8.ofNat (48 + m % 10)], 48 ≤ c.toNat ∧ c.toNat ≤ 57 := fun c hc => by
      rw [List.mem_singleton.mp hc, UInt8.toNat_ofNat']
      omega
    by_cases h : m < 10
    · rw [decDigits_low h] at hc
      exact hd c hc
    · rw [decDigits_more h] at hc
      rcases List.mem_append.mp hc with e | e
      · exact ih (m / 10) (by omega) c e
      · exact hd c e
theorem dec_ne (m : Nat) : Lib.decDigits m ≠ [] := by
  by_cases h : m < 10
  · rw [decDigits_low h]; simp
  · rw [decDigits_more h]; simp
theorem parse_dd : ∀ (F m : Nat), m < F → m ≤ 18446744073709551615 → ∀ r, Lib.parseUintM 18446744073709551615 0 (Lib.decDigits m ++ r) = Lib.parseUintM 18446744073709551615 m r := by
  intro F
  induction F with
  | zero => intro m h; omega
  | succ F ih =>
    intro m hm hb r
    have hlt := Nat.mod_lt m (show 0 < 10 by decide)
    have hd : (UInt8.ofNat (48 + m % 10)).toNat = 48 + m % 10 := by rw [UInt8.toNat_ofNat']; omega
    by_cases h : m < 10
    · rw [decDigits_low h, List.singleton_append]
      simp only [Lib.parseUintM]
      rw [hd, if_pos (by omega), if_neg (by omega), if_neg (by omega), show 0 * 10 + (48 + m % 10 - 48) = m by omega]
    · rw [decDigits_more h, List.append_assoc, ih (m / 10) (by omega) (by omega), List.singleton_append]
      simp only [Lib.parseUintM]
      rw [hd, if_pos (by omega), if_neg (by omega), if_neg (by omega), show m / 10 * 10 + (48 + m % 10 - 48) = m by omega]
theorem parse_mag (m : Nat) (hb : m ≤ 18446744073709551615) : Lib.parseUintB 64 (Lib.decDigits m) = .ok m := by
  unfold Lib.parseUintB
  rw [if_neg (dec_ne m), show 2 ^ 64 - 1 = 18446744073709551615 from rfl]
  have := parse_dd (m + 1) m (by omega) hb []
  rw [List.append_nil] at this
  rw [this]
  rfl
theorem parse_itoa (n : Int) (hn : -9223372036854775808 ≤ n ∧ n ≤ 9223372036854775807) : Lib.parseIntB 64 (Lib.itoa n) = .ok n := by
  unfold Lib.itoa
  by_cases h : n < 0
  · rw [if_pos h]
    unfold Lib.parseIntB
    have e45 : (45 : UInt8).toNat = 45 := rfl
    simp only [e45]
    rw [if_pos (Or.inr trivial), parse_mag _ (by omega)]
    simp only [show (2 ^ (64 - 1) : Nat) = 9223372036854775808 from rfl]
    rw [if_neg (by simp), if_neg (by omega), if_pos trivial]
    congr 1
    omega
  · rw [if_neg h]
    have hp := parse_mag n.toNat (by omega)
    cases hl : Lib.decDigits n.toNat with
    | nil => exact absurd hl (dec_ne _)
    | cons c r =>
      have hc := dec_digits (n.toNat + 1) n.toNat (by omega) c (by rw [hl]; simp)
      rw [hl] at hp
      unfold Lib.parseIntB
      dsimp only
      rw [if_neg (by omega), hp]
      simp only [show (2 ^ (64 - 1) : Nat) = 9223372036854775808 from rfl]
      rw [if_neg (by omega), if_neg (by omega), if_neg (by omega)]
      congr 1
      omega
def decOf (s : List UInt8) : Option Int := match Lib.parseIntB 64 s with
  | .ok v => if Lib.itoa v = s then some v else none
  | _ => none
theorem decOf_itoa (n : Int) (hn : -9223372036854775808 ≤ n ∧ n ≤ 9223372036854775807) : decOf (Lib.itoa n) = some n := by
  unfold decOf
  rw [parse_itoa n hn]
  simp
theorem decOf_some {s : List UInt8} {n : Int} (h : decOf s = some n) : Lib.itoa n = s ∧ -9223372036854775808 ≤ n ∧ n ≤ 9223372036854775807 := by
  unfold decOf at h
  cases hp : Lib.parseIntB 64 s with
  | ok v =>
    rw [hp] at h
    dsimp only at h
    have hb := Lib.parseIntB_bounds (B := 64) hp
    rw [show ((2 ^ (64 - 1) : Nat) : Int) = 9223372036854775808 from rfl] at hb
    split at h
    · rename_i e
      obtain rfl := Option.some.inj h
      exact ⟨e, by omega⟩
    · cases h
  | range => rw [hp] at h; cases h
  | _ => rw [hp] at h; cases h
def valIn (lo hi : Int) (s : List UInt8) : Int × Bool := match decOf s with
  | some v => if lo ≤ v ∧ v ≤ hi then (v, true) else (0, false)
  | none => (0, false)
theorem valIn_itoa {lo hi n : Int} (hn : -9223372036854775808 ≤ n ∧ n ≤ 9223372036854775807) (h : lo ≤ n ∧ n ≤ hi) : valIn lo hi (Lib.itoa n) = (n, true) := by
  unfold valIn
  rw [decOf_itoa n hn]
  dsimp only
  rw [if_pos h]
theorem valIn_true {lo hi : Int} {s : List UInt8} (h : (valIn lo hi s).2 = true) : Lib.itoa (valIn lo hi s).1 = s ∧ (-9223372036854775808 ≤ (valIn lo hi s).1 ∧ (valIn lo hi s).1 ≤ 9223372036854775807) ∧ lo ≤ (valIn lo hi s).1 ∧ (valIn lo hi s).1 ≤ hi := by
  unfold valIn at h ⊢
  cases hd : decOf s with
  | none => rw [hd] at h; cases h
  | some v =>
    rw [hd] at h
    have := decOf_some hd
    dsimp only at h ⊢
    split at h
    · rename_i hb
      rw [if_pos hb]
      exact ⟨this.1, this.2, hb⟩
    · cases h

end Go.Proofs.YtegjebiocgbmpaaDoor.P
