/- Holes are marked with rising numbers. -/
import Derived.Test.YtcfkpljmihijiaaLemCore
import Derived.Test.YtcfkpljmihijiaaLemMarkInt
import Derived.Test.YtcfkpljmihijiaaLemToHole
import Derived.Test.YtcfkpljmihijiaaPx0
import Derived.Test.YtcfkpljmihijiaaPx10
namespace Go.Proofs.Ytcfkpljmihijiaa.P
open Go.RowKit Go.Proofs.Ytcfkpljmihijiaa.P Go.Proofs.YtcfkpljmihijiaaW.PrintWords Go.Proofs.YtcfkpljmihijiaaW.PrintLast Go.Proofs.YtcfkpljmihijiaaW.PrintMore
set_option linter.unusedVariables false
set_option linter.unusedSimpArgs false
def iotaHole : Int → List S36 → List S36
  | _, [] => []
  | m, r :: rs => ⟨m, iota (m + 1) r.f1.length⟩ :: iotaHole (m + 1 + r.f1.length) rs
def cntHole : List S36 → Nat
  | [] => 0
  | r :: rs => 1 + r.f1.length + cntHole rs
theorem cntHole_le : ∀ rs : List S36, (∀ s ∈ rs, s.f1.length ≤ 1048576) → cntHole rs ≤ 1048577 * rs.length
  | [], _ => by simp [cntHole]
  | r :: rs, h => by
    have h1 := h r (by simp)
    have h2 := cntHole_le rs (fun s hs => h s (by simp [hs]))
    simp only [cntHole, List.length_cons]
    omega
theorem markHole_loop : ∀ (todo : List S36) (k : Nat) (pre : List S36) (m : Int), (pre.length + todo.length : Int) ≤ 4000000000000000000 → (∀ s ∈ todo, s.f1.length ≤ 1048576) → 1048577 + todo.length < k → 0 ≤ m → m + cntHole todo ≤ 3000000000000000000 → laws_markHoleS.l0 k (pre ++ todo) m pre.length = some (m + cntHole todo, pre ++ iotaHole m todo) := by
  intro todo
  induction todo with
  | nil =>
    intro k pre m h1 hr h2 h3 h4
    obtain ⟨k, rfl⟩ : ∃ m, k = m + 1 := ⟨k - 1, by omega⟩
    simp only [laws_markHoleS.l0]
    rw [if_neg (by simp)]
    simp [cntHole, iotaHole]
  | cons r rs ih =>
    intro k pre m h1 hr h2 h3 h4
    obtain ⟨k, rfl⟩ : ∃ m, k = m + 1 := ⟨k - 1, by omega⟩
    have hl := hr r (by simp)
    simp only [cntHole, List.length_cons] at h1 h2 h4
    have e1 : rd_T36 (pre ++ r :: rs) (pre.length : Int) = r := by
      unfold rd_T36
      rw [Int.toNat_natCast, List.getD_eq_getElem?_getD, List.getElem?_append_right (Nat.le_refl _), Nat.sub_self]
      rfl
    have e2 : ∀ v : S36, (pre ++ r :: rs).set ((pre.length : Int)).toNat v = (pre ++ [v]) ++ rs := by
      intro v
      rw [Int.toNat_natCast, List.set_append_right _ _ (Nat.le_refl _), Nat.sub_self]
      simp
    have e3 : pre.length + 1 = (pre ++ [(⟨m, iota (m + 1) r.f1.length⟩ : S36)]).length := by simp
    simp only [laws_markHoleS.l0]
    rw [if_pos (by simp; omega), if_pos (by omega), e1, w64 (m + 1) (by omega) (by omega), markInt_is k r.f1 (m + 1) (by omega) (by omega) (by omega), bind_some_, e2, w64s pre.length (by omega), e3, ih k _ (m + 1 + r.f1.length) (by simp; omega) (fun s hs => hr s (by simp [hs])) (by omega) (by omega) (by omega)]
    simp only [cntHole, iotaHole, List.append_assoc, List.singleton_append, Int.natCast_add, Int.add_assoc]
    rfl
theorem markHole_is (k : Nat) (rs : List S36) (m : Int) (hp : shortH rs) (hm : 0 ≤ m ∧ m ≤ 1000000000) (hk : 3000000 < k) : laws_markHoleS.f k rs m = some (m + (cntHole rs : Int), iotaHole m rs) := by
  have h1 := hp.1
  have h2 := cntHole_le rs hp.2
  have h3 : 1048577 * rs.length ≤ 1048577 * 1048576 := Nat.mul_le_mul (Nat.le_refl _) h1
  have e1 := markHole_loop rs k [] m (by simp; omega) hp.2 (by omega) (by omega) (by omega)
  exact e1

end Go.Proofs.Ytcfkpljmihijiaa.P

