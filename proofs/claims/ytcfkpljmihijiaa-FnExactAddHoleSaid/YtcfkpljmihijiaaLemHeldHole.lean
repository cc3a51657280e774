/- Holes that were marked still hold their marks. -/
import Derived.Test.YtcfkpljmihijiaaLemCore
import Derived.Test.YtcfkpljmihijiaaLemHeldInt
import Derived.Test.YtcfkpljmihijiaaLemMarkHole
import Derived.Test.YtcfkpljmihijiaaLemMarkInt
import Derived.Test.YtcfkpljmihijiaaLemToHole
import Derived.Test.YtcfkpljmihijiaaPx0
import Derived.Test.YtcfkpljmihijiaaPx10
namespace Go.Proofs.Ytcfkpljmihijiaa.P
open Go.RowKit Go.Proofs.Ytcfkpljmihijiaa.P Go.Proofs.YtcfkpljmihijiaaW.PrintWords Go.Proofs.YtcfkpljmihijiaaW.PrintLast Go.Proofs.YtcfkpljmihijiaaW.PrintMore
set_option linter.unusedVariables false
set_option linter.unusedSimpArgs false
theorem heldHole_loop : ∀ (todo : List S36) (k : Nat) (pre : List S36) (m : Int), (pre.length + todo.length : Int) ≤ 4000000000000000000 → (∀ s ∈ todo, s.f1.length ≤ 1048576) → 1048577 + todo.length < k → 0 ≤ m → m + cntHole todo ≤ 3000000000000000000 → laws_heldHoleS.l0 k (pre ++ iotaHole m todo) m pre.length = some (m + cntHole todo) := by
  intro todo
  induction todo with
  | nil =>
    intro k pre m h1 hr h2 h3 h4
    obtain ⟨k, rfl⟩ : ∃ m, k = m + 1 := ⟨k - 1, by omega⟩
    simp only [laws_heldHoleS.l0]
    rw [if_neg (by simp [iotaHole])]
    simp [cntHole]
  | cons r rs ih =>
    intro k pre m h1 hr h2 h3 h4
    obtain ⟨k, rfl⟩ : ∃ m, k = m + 1 := ⟨k - 1, by omega⟩
    have hl := hr r (by simp)
    simp only [cntHole, List.length_cons] at h1 h2 h4
    have e1 : rd_T36 (pre ++ iotaHole m (r :: rs)) (pre.length : Int) = ⟨m, iota (m + 1) r.f1.length⟩ := by
      unfold rd_T36
      rw [Int.toNat_natCast, List.getD_eq_getElem?_getD, List.getElem?_append_right (Nat.le_refl _), Nat.sub_self]
      rfl
    have e2 : pre ++ iotaHole m (r :: rs) = (pre ++ [(⟨m, iota (m + 1) r.f1.length⟩ : S36)]) ++ iotaHole (m + 1 + r.f1.length) rs := by simp [iotaHole]
    have e3 : pre.length + 1 = (pre ++ [(⟨m, iota (m + 1) r.f1.length⟩ : S36)]).length := by simp
    simp only [laws_heldHoleS.l0]
    rw [if_pos (by simp [iotaHole]; omega), if_pos (by omega), e1, if_pos rfl, w64 (m + 1) (by omega) (by omega)]
    try dsimp only
    rw [heldInt_is k r.f1.length (m + 1) (by omega) (by omega) (by omega), bind_some_, if_neg (by omega), w64s pre.length (by omega), e3, e2, ih k _ (m + 1 + r.f1.length) (by simp; omega) (fun s hs => hr s (by simp [hs])) (by omega) (by omega) (by omega)]
    simp only [cntHole, Int.natCast_add, Int.add_assoc]
    rfl
theorem heldHole_is (k : Nat) (rs : List S36) (m : Int) (hp : shortH rs) (hm : 0 ≤ m ∧ m ≤ 1000000000) (hk : 3000000 < k) : laws_heldHoleS.f k (iotaHole m rs) m = some (m + (cntHole rs : Int)) := by
  have h1 := hp.1
  have h2 := cntHole_le rs hp.2
  have h3 : 1048577 * rs.length ≤ 1048577 * 1048576 := Nat.mul_le_mul (Nat.le_refl _) h1
  have e1 := heldHole_loop rs k [] m (by simp; omega) hp.2 (by omega) (by omega) (by omega)
  exact e1
theorem markedGround (k : Nat) (ds : List Int) (hs : List S36) (hd : ds.length ≤ 1048576) (hp : shortH hs) (hk : 3000000 < k) : ∃ b, laws_markGround.f k ds hs 1 = some b ∧ 0 ≤ b.1 ∧ ∀ k2, 3000000 < k2 → laws_heldGround.f k2 b.2.1 b.2.2 1 = some b.1 := by
  unfold laws_markGround.f
  rw [markInt_is k ds 1 (by omega) (by omega) (by omega), bind_some_]
  try dsimp only
  rw [markHole_is k hs (1 + ds.length) hp ⟨by omega, by omega⟩ (by omega), bind_some_]
  refine ⟨_, rfl, by dsimp only; omega, fun k2 h2 => ?_⟩
  unfold laws_heldGround.f
  dsimp only
  rw [heldInt_is k2 ds.length 1 (by omega) (by omega) (by omega), bind_some_, if_neg (by omega), heldHole_is k2 hs (1 + ds.length) hp ⟨by omega, by omega⟩ (by omega), bind_some_, if_neg (by omega)]

end Go.Proofs.Ytcfkpljmihijiaa.P

