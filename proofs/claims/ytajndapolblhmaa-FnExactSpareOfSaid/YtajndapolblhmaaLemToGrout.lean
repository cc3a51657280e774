/- A list of the law's own structs is copied into the program's. -/
import Derived.Test.YtajndapolblhmaaLemCore
import Derived.Test.YtajndapolblhmaaPx0
import Derived.Test.YtajndapolblhmaaPx37
namespace Go.Proofs.Ytajndapolblhmaa.P
open Go.RowKit Go.Proofs.Ytajndapolblhmaa.P Go.Proofs.YtajndapolblhmaaW.PrintWords Go.Proofs.YtajndapolblhmaaW.PrintLast Go.Proofs.YtajndapolblhmaaW.PrintMore
set_option linter.unusedVariables false
set_option linter.unusedSimpArgs false
def toGrout (x : S115) : S40 := ⟨x.f0, x.f1, x.f2, x.f3⟩
theorem rdLGrout_at (l : List S115) (i : Nat) (h : i < l.length) : rd_T115 l (i : Int) = l[i] := by
  unfold rd_T115
  rw [Int.toNat_natCast, List.getD_eq_getElem?_getD, List.getElem?_eq_getElem h]
  rfl
theorem toGroutS_loop (l : List S115) (hb : l.length ≤ 9223372036854775807) : ∀ (d k i : Nat) (acc : List S40), i + d = l.length → d < k → acc.length = l.length → acc.take i = (l.map toGrout).take i → laws_toGroutS.l0 k l acc i = some (l.map toGrout) := by
  intro d
  induction d with
  | zero =>
    intro k i acc hi hk ha ht
    obtain ⟨k, rfl⟩ : ∃ m, k = m + 1 := ⟨k - 1, by omega⟩
    simp only [laws_toGroutS.l0]
    rw [if_neg (by omega)]
    rw [List.take_of_length_le (by omega), List.take_of_length_le (by rw [List.length_map]; omega)] at ht
    rw [ht]
  | succ d ih =>
    intro k i acc hi hk ha ht
    obtain ⟨k, rfl⟩ : ∃ m, k = m + 1 := ⟨k - 1, by omega⟩
    simp only [laws_toGroutS.l0, laws_toGrout.f, bind_some_]
    rw [if_pos (by omega), if_pos (by omega), if_pos (by omega), w64s i (by omega), Int.toNat_natCast]
    refine ih k (i + 1) _ (by omega) (by omega) (by rw [List.length_set]; exact ha) (fill_step (l.map toGrout) acc i _ (by rw [List.length_map]; omega) (by rw [List.length_map]; exact ha) ht ?_)
    rw [List.getElem_map, rdLGrout_at l i (by omega)]
    rfl
theorem toGroutS_is (k : Nat) (l : List S115) (hb : l.length ≤ 1048576) (hk : l.length < k) : laws_toGroutS.f k l = some (l.map toGrout) := by
  unfold laws_toGroutS.f
  rw [if_pos (by omega), if_pos (by omega)]
  exact toGroutS_loop l (by omega) l.length k 0 _ (by omega) hk (by simp) (by simp)

end Go.Proofs.Ytajndapolblhmaa.P
