/- The surface settles by the volume of all losses, and the settlements of all losses are those of the first and the other ones together; no condition. -/
import Derived.Test.YtegjebiocgbmpaaDoorCFnVolume1
import Derived.Test.YtegjebiocgbmpaaDoorCFnVolume2
import Derived.Test.YtegjebiocgbmpaaDoorCFnVolume0
namespace Go.Proofs.YtegjebiocgbmpaaDoor.Pure
open Go.RowKit Go.Proofs.YtegjebiocgbmpaaDoor.P Go.Proofs.YtegjebiocgbmpaaDoorW.PrintWords Go.Proofs.YtegjebiocgbmpaaDoorW.PrintLast Go.Proofs.YtegjebiocgbmpaaDoorW.PrintMore
set_option linter.unusedVariables false
set_option linter.unusedSimpArgs false
theorem loss_short {a b c : Int} (h : lsValid [⟨a, b, c⟩] = true) : (lossL a b c).length ≤ 100 := by
  obtain ⟨h1, h2, h3, h4⟩ := lsValid_in h
  have a1 := Lib.itoa_length_le a (by omega) (by omega)
  have a2 := Lib.itoa_length_le b (by omega) (by omega)
  have a3 := Lib.itoa_length_le c (by omega) (by omega)
  unfold lossL
  simp only [List.length_append, List.length_cons, List.length_nil]
  omega
theorem volume_l1 (S A B : List Int) (hS : S.length = 24) (hA : A.length = 24) (hB : B.length = 24) (h : ∀ q : Nat, q < 24 → rd S (q : Int) = wrap64 (rd A (q : Int) + rd B (q : Int))) (v : Int) : ∀ (d k i : Nat), i + d = 24 → d < k → laws_FnVolume.l1 k S A B v v (i : Int) = some true
  | 0, k, i, hi, hk => by
    obtain ⟨k, rfl⟩ : ∃ m, k = m + 1 := ⟨k - 1, by omega⟩
    simp only [laws_FnVolume.l1]
    rw [if_neg (by omega), beq_self_eq_true]
  | d + 1, k, i, hi, hk => by
    obtain ⟨k, rfl⟩ : ∃ m, k = m + 1 := ⟨k - 1, by omega⟩
    have ih := volume_l1 S A B hS hA hB h v d k (i + 1) (by omega) (by omega)
    have hw := w64s i (by omega)
    have he := h i (by omega)
    simp only [laws_FnVolume.l1]
    rw [if_pos (by omega), if_pos (by omega), if_pos (by omega), if_pos (by omega), if_pos (by omega), if_pos he, hw]
    exact ih
theorem volume_l0 (l : List S26) (hv : lsValid l = true) (S A B : List Int) (v : Int) (K : Nat) (hK : 1000 ≤ K) : ∀ (d i : Nat), i + d = l.length → laws_FnVolume.l0 (K + d + 1) l S A B v (volsOf (l.take i)) (i : Int) = laws_FnVolume.l1 K S A B v (volsOf l) 0
  | 0, i, hi => by
    simp only [laws_FnVolume.l0, Nat.add_zero]
    rw [if_neg (by omega), List.take_of_length_le (by omega)]
  | d + 1, i, hi => by
    have h12 := lsValid_len hv
    have hlt : i < l.length := by omega
    have ih := volume_l0 l hv S A B v K hK d (i + 1) (by omega)
    have h1 := lsValid_one hv (List.getElem_mem hlt)
    have hr := lsValid_at hv i hlt
    rw [rdLoss_at l i hlt] at hr
    have htk : volsOf (l.take (i + 1)) = volsOf (l.take i) + l[i].f1 := by
      rw [List.take_add_one, List.getElem?_eq_getElem hlt, volsOf_app]
      simp [volsOf]
    have hb : ∀ m : List S26, (∀ x ∈ m, 0 ≤ x.f1 ∧ x.f1 ≤ 100000) → 0 ≤ volsOf m ∧ volsOf m ≤ 100000 * (m.length : Int) := fun m => by
      induction m with
      | nil => intro _; simp [volsOf]
      | cons x m ih =>
        intro h
        have h1 := h x (by simp)
        have h2 := ih (fun y hy => h y (List.mem_cons_of_mem _ hy))
        simp only [volsOf, List.length_cons]
        omega
    have hbt := hb (l.take i) (fun x hx => by
      obtain ⟨j, hj, rfl⟩ := List.getElem_of_mem (List.mem_of_mem_take hx)
      have := (lsValid_at hv j hj).1
      rw [rdLoss_at l j hj] at this
      exact this)
    rw [List.length_take] at hbt
    have hw := w64 (volsOf (l.take i) + l[i].f1) (by omega) (by omega)
    have hs := loss_short (a := l[i].f0) (b := l[i].f1) (c := l[i].f2) h1
    rw [show K + (d + 1) + 1 = (K + d + 1) + 1 by omega]
    simp only [laws_FnVolume.l0]
    rw [if_pos (by omega), if_pos (by omega), rdLoss_at l i hlt, implLossT_is _ _ _ _ ⟨by omega, by omega⟩ ⟨by omega, by omega⟩ ⟨by omega, by omega⟩ (by omega), bind_some_, if_pos (show lsValid [⟨l[i].f0, l[i].f1, l[i].f2⟩] = true from h1)]
    dsimp only
    rw [lossT_tx, implReadLoss_is _ _ (by omega) (by omega), bind_some_, rdI_text (show lsValid [⟨l[i].f0, l[i].f1, l[i].f2⟩] = true from h1)]
    dsimp only
    rw [if_pos rfl, if_pos rfl, beq_self_eq_true, beq_self_eq_true, beq_self_eq_true, if_neg (by simp), hw, w64s i (by omega), ← htk]
    exact ih
theorem FnVolume : laws_FnVolume.Pure := by
  intro c m _ _ hc _ _ hm
  obtain ⟨F, hF⟩ : ∃ F, F = 100000 := ⟨_, rfl⟩
  refine ⟨F, ?_⟩
  unfold laws_FnVolume.f laws_b10Long.f
  by_cases h1 : (c.length : Int) > 1048576
  · rw [if_pos h1, bind_some_, if_pos rfl]
  · rw [if_neg h1, bind_some_]
    by_cases h2 : (m.length : Int) > 1048576
    · rw [if_pos (by simpa using h2)]
    · obtain ⟨l, hl, hv⟩ := drawLosses_is c hc F (by omega)
      have h12 := lsValid_len hv
      obtain ⟨n, hn, hn1, hn2⟩ := b10At_in m hm 0 ((l.length : Int) + 1) (by omega) (by omega)
      obtain ⟨z, rfl⟩ : ∃ z : Nat, n = z := ⟨n.toNat, by omega⟩
      have hl1 := settleP_len l
      have hl2 := settleP_len (l.take z)
      have hl3 := settleP_len (l.drop z)
      have k1 := settleP_ok l hv
      rw [if_neg (by simpa using h2), hl, bind_some_, w64s l.length (by omega)]
      rw [show ((l.length + 1 : Nat) : Int) = (l.length : Int) + 1 from rfl, hn, bind_some_, implSettle_is F l (by omega) (by omega), bind_some_, if_pos hv, if_pos (by omega), if_pos (by omega), Int.toNat_natCast, implSettle_is F (l.take z) (by rw [List.length_take]; omega) (by rw [List.length_take]; omega), bind_some_, if_pos (lsValid_take hv z), implSettle_is F (l.drop z) (by rw [List.length_drop]; omega) (by rw [List.length_drop]; omega), bind_some_, if_pos (lsValid_drop hv z)]
      dsimp only
      rw [implVol_is F (settleP l) (by omega) (by omega), bind_some_]
      unfold volOf
      rw [if_pos k1]
      dsimp only
      rw [if_pos rfl, if_pos rfl, if_pos rfl, if_pos rfl, if_pos (by omega), if_pos (by omega), hl3]
      obtain ⟨G, hG⟩ : ∃ G, F = (G + l.length + 1) + 1 := ⟨F - l.length - 2, by omega⟩
      rw [hG]
      simp only [laws_FnVolume.j0]
      rw [if_neg (by decide), settle_sum l hv]
      have := volume_l0 l hv (settleP l) (settleP (l.take z)) (settleP (l.drop z)) (volsOf l) G (by omega) l.length 0 (by omega)
      rw [List.take_zero, show volsOf ([] : List S26) = 0 from rfl, show ((0 : Nat) : Int) = 0 from rfl] at this
      rw [this]
      refine volume_l1 _ _ _ hl1 hl2 hl3 (fun q hq => ?_) _ 24 G 0 (by omega) (by omega)
      have s1 := settle_parts l hv z q hq
      have b1 := stOk_in k1 q (by omega)
      rw [← s1, w64 _ (by omega) (by omega)]

end Go.Proofs.YtegjebiocgbmpaaDoor.Pure
