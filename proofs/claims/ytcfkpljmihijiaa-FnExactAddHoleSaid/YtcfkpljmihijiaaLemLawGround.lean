/- A ground is copied, measured, marked, and equal to itself. -/
import Derived.Test.YtcfkpljmihijiaaLemCore
import Derived.Test.YtcfkpljmihijiaaLemEqInt
import Derived.Test.YtcfkpljmihijiaaLemMarkHole
import Derived.Test.YtcfkpljmihijiaaLemMarkInt
import Derived.Test.YtcfkpljmihijiaaLemToHole
import Derived.Test.YtcfkpljmihijiaaLemToInt
import Derived.Test.YtcfkpljmihijiaaPx0
import Derived.Test.YtcfkpljmihijiaaPx1
import Derived.Test.YtcfkpljmihijiaaPx10
import Derived.Test.YtcfkpljmihijiaaPx5
import Derived.Test.YtcfkpljmihijiaaPx9
namespace Go.Proofs.Ytcfkpljmihijiaa.P
open Go.RowKit Go.Proofs.Ytcfkpljmihijiaa.P Go.Proofs.YtcfkpljmihijiaaW.PrintWords Go.Proofs.YtcfkpljmihijiaaW.PrintLast Go.Proofs.YtcfkpljmihijiaaW.PrintMore
set_option linter.unusedVariables false
set_option linter.unusedSimpArgs false
theorem toGround_is (k : Nat) (ds : List Int) (hs : List S27) (hd : ds.length ≤ 1048576) (hb : hs.length ≤ 1048576) (hw : ∀ s ∈ hs, s.f1.length ≤ 1048576) (hk : 3000000 < k) : laws_toGround.f k ds hs = some (ds, hs.map toHole) := by
  unfold laws_toGround.f
  rw [toInt_is k ds (by omega) (by omega), bind_some_, toHoleS_is k hs hb hw (by omega), bind_some_]
theorem eqGround_refl (k : Nat) (ds : List Int) (hs : List S36) (hd : ds.length ≤ 1048576) (hp : shortH hs) (hk : 3000000 < k) : laws_eqGround.f k ds hs ds hs = some true := by
  have := hp.1
  unfold laws_eqGround.f
  rw [eqInt_is k ds ds (by omega) (by omega), bind_some_, if_pos (decide_eq_true rfl), eqHoleS_refl k hs hp (by omega), bind_some_, if_pos rfl]
theorem szGround_is (k : Nat) (ds : List Int) (hs : List S27) (hd : ds.length ≤ 9223372036854775807) (hb : hs.length ≤ 9223372036854775807) (hw : ∀ s ∈ hs, s.f1.length ≤ 9223372036854775807) (hk : 3000000 < k) : ∃ r, laws_szGround.f k ds hs 1048576 = some r ∧ r ≤ 1048576 ∧ (r < 0 ∨ (ds.length ≤ 1048576 ∧ hs.length ≤ 1048576 ∧ ∀ s ∈ hs, s.f1.length ≤ 1048576)) := by
  unfold laws_szGround.f laws_szInt64S.f
  rw [w64 (1048576 - (ds.length : Int)) (by omega) (by omega)]
  by_cases h1 : 1048576 - (ds.length : Int) < 0
  · rw [if_pos h1, bind_some_, if_pos (by omega)]
    exact ⟨_, rfl, by omega, Or.inl (by omega)⟩
  · obtain ⟨r, hr, hs2⟩ := szHoleS_is k hs (1048576 - (ds.length : Int)) hb hw (by omega) (by omega) (by omega)
    rw [if_neg h1, bind_some_, if_neg h1, hr, bind_some_]
    by_cases h2 : r < 0
    · rw [if_pos h2]
      exact ⟨_, rfl, by omega, Or.inl (by omega)⟩
    · rw [if_neg h2]
      have h3 := hs2.resolve_left h2
      by_cases h4 : r ≤ 1048576
      · exact ⟨_, rfl, h4, Or.inr ⟨by omega, h3⟩⟩
      · exact absurd (szHoleS_le k hs _ hb hw (by omega) (by omega) (by omega) r hr) h4
end Go.Proofs.Ytcfkpljmihijiaa.P

