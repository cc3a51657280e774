/- A list of the law's own structs is copied into the program's. -/
import Derived.Test.YtajndapolblhmaaLemCore
import Derived.Test.YtajndapolblhmaaPx0
import Derived.Test.YtajndapolblhmaaPx10
namespace Go.Proofs.Ytajndapolblhmaa.P
open Go.RowKit Go.Proofs.Ytajndapolblhmaa.P Go.Proofs.YtajndapolblhmaaW.PrintWords Go.Proofs.YtajndapolblhmaaW.PrintLast Go.Proofs.YtajndapolblhmaaW.PrintMore
set_option linter.unusedVariables false
set_option linter.unusedSimpArgs false
def toOrder (x : S121) : S119 := ⟨x.f0, x.f1⟩
theorem rdLOrder_at (l : List S121) (i : Nat) (h : i < l.length) : rd_T121 l (i : Int) = l[i] := by
  unfold rd_T121
  rw [Int.toNat_natCast, List.getD_eq_getElem?_getD, List.getElem?_eq_getElem h]
  rfl
theorem toOrderS_loop (l : List S121) (hb : l.length ≤ 9223372036854775807) : ∀ (d k i : Nat) (acc : List S119), i + d = l.length → d < k → acc.length = l.length → acc.take i = (l.map toOrder).take i → laws_toOrderS.l0 k l acc i = some (l.map toOrder) := by
  intro d
  induction d with
  | zero =>
    intro k i acc hi hk ha ht
    obtain ⟨k, rfl⟩ : ∃ m, k = m + 1 := ⟨k - 1, by omega⟩
    simp only [laws_toOrderS.l0]
    rw [if_neg (by omega)]
    rw [List.take_of_length_le (by omega), List.take_of_length_le (by rw [List.length_map]; omega)] at ht
    rw [ht]
  | succ d ih =>
    intro k i acc hi hk ha ht
    obtain ⟨k, rfl⟩ : ∃ m, k = m + 1 := ⟨k - 1, by omega⟩
    simp only [laws_toOrderS.l0, laws_toOrder.f, bind_some_]
    rw [if_pos (by omega), if_pos (by omega), if_pos (by omega), w64s i (by omega), Int.toNat_natCast]
    refine ih k (i + 1) _ (by omega) (by omega) (by rw [List.length_set]; exact ha) (fill_step (l.map toOrder) acc i _ (by rw [List.length_map]; omega) (by rw [List.length_map]; exact ha) ht ?_)
    rw [List.getElem_map, rdLOrder_at l i (by omega)]
    rfl
theorem toOrderS_is (k : Nat) (l : List S121) (hb : l.length ≤ 1048576) (hk : l.length < k) : laws_toOrderS.f k l = some (l.map toOrder) := by
  unfold laws_toOrderS.f
  rw [if_pos (by omega), if_pos (by omega)]
  exact toOrderS_loop l (by omega) l.length k 0 _ (by omega) hk (by simp) (by simp)

end Go.Proofs.Ytajndapolblhmaa.P
