/- The reference's decimal numeral is the library's. -/
import Derived.Test.YtegjebiocgbmpaaDoorLemCore
import Derived.Test.YtegjebiocgbmpaaDoorPx1
import Derived.Test.YtegjebiocgbmpaaDoorPx2
namespace Go.Proofs.YtegjebiocgbmpaaDoor.P
open Go.RowKit Go.Proofs.YtegjebiocgbmpaaDoor.P Go.Proofs.YtegjebiocgbmpaaDoorW.PrintWords Go.Proofs.YtegjebiocgbmpaaDoorW.PrintLast Go.Proofs.YtegjebiocgbmpaaDoorW.PrintMore
set_option linter.unusedVariables false
set_option linter.unusedSimpArgs false
def tx (l : List UInt8) : ByteArray := ⟨l.toArray⟩
theorem tx_app (a b : List UInt8) : tx a ++ tx b = tx (a ++ b) := by
  apply ByteArray.ext
  rw [ByteArray.data_append]
  simp [tx]
theorem tx_size (l : List UInt8) : (tx l).size = l.length := by
  show l.toArray.size = l.length
  simp
theorem tx_inj {a b : List UInt8} (h : tx a = tx b) : a = b := by
  have := congrArg (fun z : ByteArray => z.data.toList) h
  simpa [tx] using this
theorem tx_of (b : ByteArray) : tx b.data.toList = b := by
  apply ByteArray.ext
  simp [tx]
theorem tx_data (l : List UInt8) : (tx l).data.toList = l := by simp [tx]
def dd (n : Int) : ByteArray := tx (Lib.itoa n)
theorem dd_size (n : Int) (h : -9223372036854775808 ≤ n ∧ n ≤ 9223372036854775807) : (dd n).size ≤ 21 := by
  unfold dd
  rw [tx_size]
  exact Lib.itoa_length_le n h.1 h.2
theorem dig_is (m : Nat) (hm : m < 18446744073709551616) : strOfNums [(wrap64 (48 - (Int.tmod (-(m : Int)) 10))) % 256] = tx [UInt8.ofNat (48 + m % 10)] := by
  have e : Int.tmod (-(m : Int)) 10 = -((m % 10 : Nat) : Int) := by
    rw [Int.neg_tmod]
    rfl
  have hlt := Nat.mod_lt m (show 0 < 10 by decide)
  rw [e, w64 _ (by omega) (by omega)]
  unfold strOfNums tx
  simp only [List.map_cons, List.map_nil]
  rw [show ((48 - -((m % 10 : Nat) : Int)) % 256).toNat = 48 + m % 10 by omega]
theorem tdiv_is (m : Nat) (hm : m ≤ 9223372036854775808) : wrap64 (Int.tdiv (-(m : Int)) 10) = -((m / 10 : Nat) : Int) := by
  have e : Int.tdiv (-(m : Int)) 10 = -((m / 10 : Nat) : Int) := by
    rw [Int.neg_tdiv]
    rfl
  rw [e, w64 _ (by omega) (by omega)]
theorem decDigits_low {m : Nat} (h : m < 10) : Lib.decDigits m = [UInt8.ofNat (48 + m % 10)] := by
  rw [Lib.decDigits_one h, Nat.mod_eq_of_lt h]
theorem decDigits_more {m : Nat} (h : ¬ m < 10) : Lib.decDigits m = Lib.decDigits (m / 10) ++ [UInt8.ofNat (48 + m % 10)] := by
  rw [Lib.decDigits, dif_neg h]
theorem dec_l0 (x : ByteArray) (hx : x.size ≤ 1000) : ∀ (d k m : Nat) (acc : List UInt8), m < 10 ^ d → m ≤ 9223372036854775808 → d < k → acc.length + d ≤ 1000 → spec_l01Dec.l0 k x (-(m : Int)) (tx acc) = some (x ++ tx ((if m = 0 then [] else Lib.decDigits m) ++ acc)) := by
  intro d
  induction d with
  | zero =>
    intro k m acc hm _ hk ha
    obtain ⟨k, rfl⟩ : ∃ q, k = q + 1 := ⟨k - 1, by omega⟩
    have : m = 0 := by simp at hm; omega
    subst this
    simp only [spec_l01Dec.l0]
    rw [if_neg (by omega), tx_size, if_pos (by omega)]
    simp
  | succ d ih =>
    intro k m acc hm hb hk ha
    obtain ⟨k, rfl⟩ : ∃ q, k = q + 1 := ⟨k - 1, by omega⟩
    simp only [spec_l01Dec.l0]
    by_cases h0 : m = 0
    · subst h0
      rw [if_neg (by omega), tx_size, if_pos (by omega)]
      simp
    · rw [if_pos (by omega), bind_some_, dig_is m (by omega), tx_size, tx_size, if_pos (by simp only [List.length_cons, List.length_nil]; omega), tdiv_is m hb, tx_app, ih k (m / 10) _ (by rw [Nat.pow_succ] at hm; omega) (by omega) (by omega) (by simp only [List.length_append, List.length_cons, List.length_nil]; omega), if_neg h0]
      by_cases h1 : m < 10
      · rw [if_pos (by omega), decDigits_low h1, List.nil_append]
      · rw [if_neg (by omega), decDigits_more h1, List.append_assoc]
theorem dec_j0 (x : ByteArray) (hx : x.size ≤ 1000) (k m : Nat) (hm : m ≤ 9223372036854775808) (hk : 30 < k) : spec_l01Dec.j0 k x (-(m : Int)) = some (x ++ tx (Lib.decDigits m)) := by
  obtain ⟨k, rfl⟩ : ∃ q, k = q + 1 := ⟨k - 1, by omega⟩
  simp only [spec_l01Dec.j0]
  rw [dig_is m (by omega), tdiv_is m hm, dec_l0 x hx 20 k (m / 10) _ (by omega) (by omega) (by omega) (by simp)]
  by_cases h1 : m < 10
  · rw [if_pos (by omega), decDigits_low h1, List.nil_append]
  · rw [if_neg (by omega), decDigits_more h1]
theorem specDec_is (k : Nat) (n : Int) (hn : -9223372036854775808 ≤ n ∧ n ≤ 9223372036854775807) (hk : 30 < k) : spec_l01Dec.f k n = some (dd n) := by
  unfold spec_l01Dec.f dd Lib.itoa
  by_cases h : n < 0
  · obtain ⟨m, e⟩ : ∃ m : Nat, n = -(m : Int) := ⟨n.natAbs, by omega⟩
    subst e
    rw [if_pos h, dec_j0 _ (by decide) k m (by omega) hk, if_pos h, show (-(m : Int)).natAbs = m by omega, show (⟨#[45]⟩ : ByteArray) = tx [45] from rfl, tx_app]
    rfl
  · obtain ⟨m, e⟩ : ∃ m : Nat, n = (m : Int) := ⟨n.toNat, by omega⟩
    subst e
    rw [if_neg h, w64 _ (by omega) (by omega), dec_j0 _ (by decide) k m (by omega) hk, if_neg h, Int.toNat_natCast, show (⟨#[]⟩ : ByteArray) = tx [] from rfl, tx_app, List.nil_append]
theorem implDec_is (n : Int) (hn : -9223372036854775808 ≤ n ∧ n ≤ 9223372036854775807) : impl_Decimal.f n = some (dd n) := by
  unfold impl_Decimal.f
  rw [if_pos hn]
  rfl
theorem lit1 (x : UInt8) : (⟨#[x]⟩ : ByteArray) = tx [x] := rfl
theorem lit2 (x y : UInt8) : (⟨#[x, y]⟩ : ByteArray) = tx [x, y] := rfl
theorem lit0 : (⟨#[]⟩ : ByteArray) = tx [] := rfl

end Go.Proofs.YtegjebiocgbmpaaDoor.P
