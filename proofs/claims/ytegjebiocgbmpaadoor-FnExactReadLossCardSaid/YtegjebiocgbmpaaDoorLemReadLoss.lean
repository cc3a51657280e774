/- The loss with a text, as the program and the reference read it. -/
import Derived.Test.YtegjebiocgbmpaaDoorLemCore
import Derived.Test.YtegjebiocgbmpaaDoorLemCut
import Derived.Test.YtegjebiocgbmpaaDoorLemDec
import Derived.Test.YtegjebiocgbmpaaDoorLemLossText
import Derived.Test.YtegjebiocgbmpaaDoorLemLosses
import Derived.Test.YtegjebiocgbmpaaDoorLemReadIn
import Derived.Test.YtegjebiocgbmpaaDoorLemUpTo
import Derived.Test.YtegjebiocgbmpaaDoorLemValue
import Derived.Test.YtegjebiocgbmpaaDoorPx0
import Derived.Test.YtegjebiocgbmpaaDoorPx3
import Derived.Test.YtegjebiocgbmpaaDoorPx4
namespace Go.Proofs.YtegjebiocgbmpaaDoor.P
open Go.RowKit Go.Proofs.YtegjebiocgbmpaaDoor.P Go.Proofs.YtegjebiocgbmpaaDoorW.PrintWords Go.Proofs.YtegjebiocgbmpaaDoorW.PrintLast Go.Proofs.YtegjebiocgbmpaaDoorW.PrintMore
set_option linter.unusedVariables false
set_option linter.unusedSimpArgs false
def v9 (s : List UInt8) : Int × Bool := valIn (-1000000000) 1000000000 s
def lossL (a b c : Int) : List UInt8 := (((([64] ++ Lib.itoa a) ++ [32]) ++ Lib.itoa b) ++ [108, 47]) ++ Lib.itoa c
theorem lossT_tx (a b c : Int) : lossT a b c = tx (lossL a b c) := by
  unfold lossT dd lossL
  rw [lit1, lit1, lit2, tx_app, tx_app, tx_app, tx_app, tx_app]
def zL : Int × Int × Int × Bool := (0, 0, 0, false)
def okL (s : List UInt8) (a b c : Int) : Int × Int × Int × Bool := if lsValid [⟨a, b, c⟩] = true then (if lossL a b c = s then (a, b, c, true) else zL) else zL
theorem okL_shape (s : List UInt8) (a b c : Int) : okL s a b c = zL ∨ (okL s a b c = (a, b, c, true) ∧ lsValid [⟨a, b, c⟩] = true ∧ lossL a b c = s) := by
  unfold okL
  split
  · rename_i h
    split
    · rename_i e
      exact Or.inr ⟨rfl, h, e⟩
    · exact Or.inl rfl
  · exact Or.inl rfl
def rdI (s : List UInt8) : Int × Int × Int × Bool :=
  let q := Lib.cut (Lib.trimPrefix s [64]) [32]
  let u := Lib.cut q.2.1 [108, 47]
  if (v9 q.1).2 = true then (if (v9 u.1).2 = true then (if (v9 u.2.1).2 = true then (if q.2.2 = true then (if u.2.2 = true then okL s (v9 q.1).1 (v9 u.1).1 (v9 u.2.1).1 else zL) else zL) else zL) else zL) else zL
theorem lsValid_in {a b c : Int} (h : lsValid [⟨a, b, c⟩] = true) : (0 ≤ b ∧ b ≤ 100000) ∧ (0 ≤ c ∧ c ≤ 5) ∧ c ≤ a ∧ a ≤ 23 - c := by
  unfold lsValid at h
  simp only [List.length_cons, List.length_nil, upTo, lsOk, Bool.and_eq_true, decide_eq_true_eq, Nat.zero_add] at h
  have e : rd_T26 [(⟨a, b, c⟩ : S26)] ((0 : Nat) : Int) = ⟨a, b, c⟩ := rfl
  rw [e] at h
  dsimp only at h
  obtain ⟨⟨⟨⟨h1, h2⟩, h3⟩, _⟩, _⟩ := h
  rw [w64 _ (by omega) (by omega)] at h3
  exact ⟨h1, h2, h3⟩
theorem itoa_free {n : Int} (h : 0 ≤ n) (x : UInt8) (hx : x.toNat < 48 ∨ 57 < x.toNat) : x ∉ Lib.itoa n := fun hm => by
  unfold Lib.itoa at hm
  rw [if_neg (by omega)] at hm
  have := dec_digits (n.toNat + 1) n.toNat (by omega) x hm
  omega
theorem rdI_text {a b c : Int} (h : lsValid [⟨a, b, c⟩] = true) : rdI (lossL a b c) = (a, b, c, true) := by
  obtain ⟨h1, h2, h3, h4⟩ := lsValid_in h
  have e1 : lossL a b c = 64 :: (Lib.itoa a ++ (((32 : UInt8) :: []) ++ (Lib.itoa b ++ (((108 : UInt8) :: [47]) ++ Lib.itoa c)))) := by
    unfold lossL
    simp
  have t1 : Lib.trimPrefix (lossL a b c) [64] = Lib.itoa a ++ (((32 : UInt8) :: []) ++ (Lib.itoa b ++ (((108 : UInt8) :: [47]) ++ Lib.itoa c))) := by rw [e1, trim_hit]
  have t2 := cut_app 32 [] (Lib.itoa b ++ (((108 : UInt8) :: [47]) ++ Lib.itoa c)) (Lib.itoa a) (itoa_free (by omega) 32 (by decide))
  have t3 := cut_app 108 [47] (Lib.itoa c) (Lib.itoa b) (itoa_free (by omega) 108 (by decide))
  unfold rdI
  rw [t1, t2]
  dsimp only
  rw [t3]
  dsimp only
  unfold v9
  rw [valIn_itoa (by omega) (by omega), valIn_itoa (by omega) (by omega), valIn_itoa (by omega) (by omega)]
  dsimp only
  unfold okL
  rw [if_pos rfl, if_pos rfl, if_pos rfl, if_pos rfl, if_pos rfl, if_pos h, if_pos rfl]
theorem rdI_shape (s : List UInt8) : rdI s = zL ∨ ∃ a b c, rdI s = (a, b, c, true) ∧ lsValid [⟨a, b, c⟩] = true ∧ lossL a b c = s := by
  unfold rdI
  dsimp only
  split
  · split
    · split
      · split
        · split
          · rcases okL_shape s (v9 (Lib.cut (Lib.trimPrefix s [64]) [32]).1).1 (v9 (Lib.cut (Lib.cut (Lib.trimPrefix s [64]) [32]).2.1 [108, 47]).1).1 (v9 (Lib.cut (Lib.cut (Lib.trimPrefix s [64]) [32]).2.1 [108, 47]).2.1).1 with e | ⟨e, h1, h2⟩
            · exact Or.inl e
            · exact Or.inr ⟨_, _, _, e, h1, h2⟩
          · exact Or.inl rfl
        · exact Or.inl rfl
      · exact Or.inl rfl
    · exact Or.inl rfl
  · exact Or.inl rfl
theorem v9_in (s : List UInt8) : i64R (v9 s).1 := by
  unfold v9 valIn
  cases h : decOf s with
  | none => exact ⟨by decide, by decide⟩
  | some v =>
    have := decOf_some h
    dsimp only
    split
    · exact ⟨this.2.1, this.2.2⟩
    · exact ⟨by decide, by decide⟩
theorem implReadLoss_is (k : Nat) (s : List UInt8) (hs : s.length ≤ 1048576) (hk : 100 < k) : impl_ReadLoss.f k (tx s) = some (rdI s) := by
  obtain ⟨k, rfl⟩ : ∃ m, k = m + 4 := ⟨k - 4, by omega⟩
  have l1 := trim_len s [64]
  have l2 := cut_len (Lib.trimPrefix s [64]) [32]
  have l3 := cut_len (Lib.cut (Lib.trimPrefix s [64]) [32]).2.1 [108, 47]
  obtain ⟨q1, q2, q3, hq⟩ : ∃ q1 q2 q3, Lib.cut (Lib.trimPrefix s [64]) [32] = (q1, q2, q3) := ⟨_, _, _, rfl⟩
  obtain ⟨u1, u2, u3, hu⟩ : ∃ u1 u2 u3, Lib.cut q2 [108, 47] = (u1, u2, u3) := ⟨_, _, _, rfl⟩
  rw [hq] at l2 l3
  dsimp only at l2 l3
  rw [hu] at l3
  dsimp only at l3
  unfold impl_ReadLoss.f rdI strings_TrimPrefix.f strings_Cut.f
  rw [bind_some_, lit1, lit1, lit2, tx_data, tx_data, show (⟨(Lib.trimPrefix s [64]).toArray⟩ : ByteArray) = tx (Lib.trimPrefix s [64]) from rfl, tx_size, if_pos (by omega), tx_data, tx_data, bind_some_, hq]
  dsimp only
  rw [show (⟨q2.toArray⟩ : ByteArray) = tx q2 from rfl, show (⟨q1.toArray⟩ : ByteArray) = tx q1 from rfl, tx_size, if_pos (by omega), tx_data, bind_some_, hu]
  dsimp only
  rw [show (⟨u1.toArray⟩ : ByteArray) = tx u1 from rfl, show (⟨u2.toArray⟩ : ByteArray) = tx u2 from rfl, bind_some_]
  have r0 : rdOf ByteArray.empty [tx q1, tx u1, tx u2] 0 = tx q1 := rfl
  have r1 : rdOf ByteArray.empty [tx q1, tx u1, tx u2] 1 = tx u1 := rfl
  have r2 : rdOf ByteArray.empty [tx q1, tx u1, tx u2] 2 = tx u2 := rfl
  have n1 : wrap64 (0 + 1) = 1 := by rw [w64 (0 + 1) (by omega) (by omega)]; rfl
  have n2 : wrap64 (1 + 1) = 2 := by rw [w64 (1 + 1) (by omega) (by omega)]; rfl
  have n3 : wrap64 (2 + 1) = 3 := by rw [w64 (2 + 1) (by omega) (by omega)]; rfl
  simp only [impl_ReadLoss.l0, List.length_cons, List.length_nil]
  rw [if_pos (by decide), if_pos (by decide), if_pos (by decide), r0, implReadDecimal_is q1 (by omega), bind_some_, show valIn (-1000000000) 1000000000 q1 = v9 q1 from rfl]
  by_cases c1 : (v9 q1).2 = true
  · rw [if_pos c1, if_pos c1, if_pos (by decide), n1, if_pos (by decide), if_pos (by decide), if_pos (by decide), r1, implReadDecimal_is u1 (by omega), bind_some_, show valIn (-1000000000) 1000000000 u1 = v9 u1 from rfl]
    by_cases c2 : (v9 u1).2 = true
    · rw [if_pos c2, if_pos c2, if_pos (by simp), n2, if_pos (by decide), if_pos (by decide), if_pos (by decide), r2, implReadDecimal_is u2 (by omega), bind_some_, show valIn (-1000000000) 1000000000 u2 = v9 u2 from rfl]
      by_cases c3 : (v9 u2).2 = true
      · rw [if_pos c3, if_pos c3, if_pos (by simp), n3, if_neg (by decide)]
        have e0 : rd ((([] ++ [(v9 q1).1]) ++ [(v9 u1).1]) ++ [(v9 u2).1]) 0 = (v9 q1).1 := rfl
        have e1 : rd ((([] ++ [(v9 q1).1]) ++ [(v9 u1).1]) ++ [(v9 u2).1]) 1 = (v9 u1).1 := rfl
        have e2 : rd ((([] ++ [(v9 q1).1]) ++ [(v9 u1).1]) ++ [(v9 u2).1]) 2 = (v9 u2).1 := rfl
        have hlen : ((([] ++ [(v9 q1).1]) ++ [(v9 u1).1]) ++ [(v9 u2).1]).length = 3 := rfl
        rw [hlen, if_pos (by decide), if_pos (by decide), if_pos (by decide), e0, e1, e2, implLossT_is k _ _ _ (v9_in q1) (v9_in u1) (v9_in u2) (by omega), bind_some_]
        by_cases c4 : q3 = true
        · rw [if_pos c4, if_pos c4]
          by_cases c5 : u3 = true
          · rw [if_pos c5, if_pos c5]
            unfold okL
            by_cases c6 : lsValid [⟨(v9 q1).1, (v9 u1).1, (v9 u2).1⟩] = true
            · rw [if_pos c6, if_pos c6]
              dsimp only
              rw [if_pos rfl, lossT_tx, tx_toList, tx_toList]
              by_cases c7 : lossL (v9 q1).1 (v9 u1).1 (v9 u2).1 = s
              · rw [if_pos c7, if_pos c7]
              · rw [if_neg c7, if_neg c7]
                rfl
            · rw [if_neg c6, if_neg c6]
              dsimp only
              rw [if_neg (by simp)]
              rfl
          · rw [if_neg c5, if_neg c5]
            rfl
        · rw [if_neg c4, if_neg c4]
          rfl
      · rw [if_neg c3, if_neg c3]
        rfl
    · rw [if_neg c2, if_neg c2]
      rfl
  · rw [if_neg c1, if_neg c1]
    rfl

end Go.Proofs.YtegjebiocgbmpaaDoor.P
