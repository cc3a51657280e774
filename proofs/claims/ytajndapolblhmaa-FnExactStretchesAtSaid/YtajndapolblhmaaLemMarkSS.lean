/- Rows of numbers are marked with rising numbers, and still hold them. -/
import Derived.Test.YtajndapolblhmaaLemCore
import Derived.Test.YtajndapolblhmaaLemEqInt
import Derived.Test.YtajndapolblhmaaLemHeldInt
import Derived.Test.YtajndapolblhmaaLemMarkInt
import Derived.Test.YtajndapolblhmaaPx0
import Derived.Test.YtajndapolblhmaaPx41
namespace Go.Proofs.Ytajndapolblhmaa.P
open Go.RowKit Go.Proofs.Ytajndapolblhmaa.P Go.Proofs.YtajndapolblhmaaW.PrintWords Go.Proofs.YtajndapolblhmaaW.PrintLast Go.Proofs.YtajndapolblhmaaW.PrintMore
set_option linter.unusedVariables false
set_option linter.unusedSimpArgs false
def iotaSS : Int → List (List Int) → List (List Int)
  | _, [] => []
  | m, r :: rs => iota m r.length :: iotaSS (m + r.length) rs
def cntSS : List (List Int) → Nat
  | [] => 0
  | r :: rs => r.length + cntSS rs
theorem iotaSS_len : ∀ (rs : List (List Int)) (m : Int), (iotaSS m rs).length = rs.length
  | [], _ => rfl
  | r :: rs, m => by simp [iotaSS, iotaSS_len rs]
theorem markSS_loop : ∀ (todo : List (List Int)) (k : Nat) (pre : List (List Int)) (m : Int), (pre.length + todo.length : Int) ≤ 4000000000000000000 → cntSS todo + todo.length < k → 0 ≤ m → m + cntSS todo ≤ 4000000000000000000 → laws_markInt64SS.l0 k (pre ++ todo) m pre.length = some (m + cntSS todo, pre ++ iotaSS m todo) := by
  intro todo
  induction todo with
  | nil =>
    intro k pre m h1 h2 h3 h4
    obtain ⟨k, rfl⟩ : ∃ m, k = m + 1 := ⟨k - 1, by omega⟩
    simp only [laws_markInt64SS.l0]
    rw [if_neg (by simp)]
    simp [cntSS, iotaSS]
  | cons r rs ih =>
    intro k pre m h1 h2 h3 h4
    obtain ⟨k, rfl⟩ : ∃ m, k = m + 1 := ⟨k - 1, by omega⟩
    simp only [cntSS, List.length_cons] at h1 h2 h4
    have e1 : (pre ++ r :: rs).getD ((pre.length : Int)).toNat ([] : List Int) = r := by
      rw [Int.toNat_natCast, List.getD_eq_getElem?_getD, List.getElem?_append_right (Nat.le_refl _), Nat.sub_self]
      rfl
    have e2 : (pre ++ r :: rs).set ((pre.length : Int)).toNat (iota m r.length) = (pre ++ [iota m r.length]) ++ rs := by
      rw [Int.toNat_natCast, List.set_append_right _ _ (Nat.le_refl _), Nat.sub_self]
      simp
    have e3 : pre.length + 1 = (pre ++ [iota m r.length]).length := by simp
    simp only [laws_markInt64SS.l0]
    rw [if_pos (by simp; omega), if_pos (by omega), e1, markInt_is k r m (by omega) (by omega) (by omega), bind_some_, e2, w64s pre.length (by omega), e3, ih k (pre ++ [iota m r.length]) (m + r.length) (by simp; omega) (by omega) (by omega) (by omega)]
    simp only [cntSS, iotaSS, List.append_assoc, List.singleton_append, Int.natCast_add, Int.add_assoc]
theorem heldSS_loop : ∀ (todo : List (List Int)) (k : Nat) (pre : List (List Int)) (m : Int), (pre.length + todo.length : Int) ≤ 4000000000000000000 → cntSS todo + todo.length < k → 0 ≤ m → m + cntSS todo ≤ 4000000000000000000 → laws_heldInt64SS.l0 k (pre ++ iotaSS m todo) m pre.length = some (m + cntSS todo) := by
  intro todo
  induction todo with
  | nil =>
    intro k pre m h1 h2 h3 h4
    obtain ⟨k, rfl⟩ : ∃ m, k = m + 1 := ⟨k - 1, by omega⟩
    simp only [laws_heldInt64SS.l0]
    rw [if_neg (by simp [iotaSS])]
    simp [cntSS]
  | cons r rs ih =>
    intro k pre m h1 h2 h3 h4
    obtain ⟨k, rfl⟩ : ∃ m, k = m + 1 := ⟨k - 1, by omega⟩
    simp only [cntSS, List.length_cons] at h1 h2 h4
    have e1 : rd_L1 (pre ++ iotaSS m (r :: rs)) (pre.length : Int) = iota m r.length := by
      unfold rd_L1
      rw [Int.toNat_natCast, List.getD_eq_getElem?_getD, List.getElem?_append_right (Nat.le_refl _), Nat.sub_self]
      rfl
    have e2 : pre ++ iotaSS m (r :: rs) = (pre ++ [iota m r.length]) ++ iotaSS (m + r.length) rs := by simp [iotaSS]
    have e3 : pre.length + 1 = (pre ++ [iota m r.length]).length := by simp
    simp only [laws_heldInt64SS.l0]
    rw [if_pos (by simp [iotaSS]; omega), if_pos (by omega), e1, heldInt_is k r.length m (by omega) (by omega) (by omega), bind_some_, if_neg (by omega), w64s pre.length (by omega), e3, e2, ih k (pre ++ [iota m r.length]) (m + r.length) (by simp; omega) (by omega) (by omega) (by omega)]
    simp only [cntSS, Int.natCast_add, Int.add_assoc]
theorem markSS_is (k : Nat) (rs : List (List Int)) (h1 : rs.length ≤ 1000000) (h2 : cntSS rs ≤ 1000000) (hk : 3000000 < k) : laws_markInt64SS.f k rs 1 = some (1 + (cntSS rs : Int), iotaSS 1 rs) ∧ laws_heldInt64SS.f k (iotaSS 1 rs) 1 = some (1 + (cntSS rs : Int)) := by
  have e1 := markSS_loop rs k [] 1 (by simp; omega) (by omega) (by omega) (by omega)
  have e2 := heldSS_loop rs k [] 1 (by simp; omega) (by omega) (by omega) (by omega)
  exact ⟨e1, e2⟩
theorem eqSS_loop (rs : List (List Int)) (hb : rs.length ≤ 1000000) (hr : ∀ r ∈ rs, r.length ≤ 1000000) : ∀ (d k i : Nat), i + d = rs.length → d + 1000001 < k → laws_eqInt64SS.l0 k rs rs i = some true := by
  intro d
  induction d with
  | zero =>
    intro k i hi hk
    obtain ⟨k, rfl⟩ : ∃ m, k = m + 1 := ⟨k - 1, by omega⟩
    simp only [laws_eqInt64SS.l0]
    rw [if_neg (by omega)]
  | succ d ih =>
    intro k i hi hk
    obtain ⟨k, rfl⟩ : ∃ m, k = m + 1 := ⟨k - 1, by omega⟩
    have hlt : i < rs.length := by omega
    have e1 : rd_L1 rs (i : Int) = rs[i] := by
      unfold rd_L1
      rw [Int.toNat_natCast, List.getD_eq_getElem?_getD, List.getElem?_eq_getElem hlt]
      rfl
    have h1 := hr _ (List.getElem_mem hlt)
    simp only [laws_eqInt64SS.l0]
    rw [if_pos (by omega), if_pos (by omega), if_pos (by omega), e1, eqInt_is k _ _ (by omega) (by omega), bind_some_, if_pos (decide_eq_true rfl), w64s i (by omega)]
    exact ih k (i + 1) (by omega) (by omega)
theorem eqSS_refl (k : Nat) (rs : List (List Int)) (hb : rs.length ≤ 1000000) (hr : ∀ r ∈ rs, r.length ≤ 1000000) (hk : 3000000 < k) : laws_eqInt64SS.f k rs rs = some true := by
  unfold laws_eqInt64SS.f
  rw [if_pos rfl]
  exact eqSS_loop rs hb hr rs.length k 0 (by omega) (by omega)

end Go.Proofs.Ytajndapolblhmaa.P
