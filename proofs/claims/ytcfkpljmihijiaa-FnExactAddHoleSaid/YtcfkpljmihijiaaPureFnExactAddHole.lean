/- The program's AddHole returns what the reference's returns, for all arguments; no condition. -/
import Derived.Test.YtcfkpljmihijiaaLemAddHole
import Derived.Test.YtcfkpljmihijiaaLemCore
import Derived.Test.YtcfkpljmihijiaaLemEqInt
import Derived.Test.YtcfkpljmihijiaaLemHeldHole
import Derived.Test.YtcfkpljmihijiaaLemLawGround
import Derived.Test.YtcfkpljmihijiaaLemMarkHole
import Derived.Test.YtcfkpljmihijiaaLemMarkInt
import Derived.Test.YtcfkpljmihijiaaLemToHole
import Derived.Test.YtcfkpljmihijiaaLemToInt
import Derived.Test.YtcfkpljmihijiaaPx0
import Derived.Test.YtcfkpljmihijiaaPx1
import Derived.Test.YtcfkpljmihijiaaPx10
import Derived.Test.YtcfkpljmihijiaaPx11
import Derived.Test.YtcfkpljmihijiaaPx5
import Derived.Test.YtcfkpljmihijiaaPx9
namespace Go.Proofs.Ytcfkpljmihijiaa.Pure
open Go.RowKit Go.Proofs.Ytcfkpljmihijiaa.P Go.Proofs.YtcfkpljmihijiaaW.PrintWords Go.Proofs.YtcfkpljmihijiaaW.PrintLast Go.Proofs.YtcfkpljmihijiaaW.PrintMore
set_option linter.unusedVariables false
set_option linter.unusedSimpArgs false
theorem szHole_is (a : Int) (t : List Int) (q : Int) (h0 : 0 ≤ q ∧ q ≤ 1048576) (ht : t.length ≤ 9223372036854775807) : ∃ r, laws_szHole.f a t q = some r ∧ (r < 0 ∨ t.length ≤ 1048576) := by
  unfold laws_szHole.f laws_szInt64S.f
  rw [w64 (q - (t.length : Int)) (by omega) (by omega)]
  by_cases h1 : q - (t.length : Int) < 0
  · rw [if_pos h1, bind_some_, if_pos (by omega)]
    exact ⟨_, rfl, Or.inl (by omega)⟩
  · rw [if_neg h1, bind_some_, if_neg h1]
    exact ⟨_, rfl, Or.inr (by omega)⟩
theorem markGround_le (k : Nat) (ds : List Int) (hs : List S36) (hd : ds.length ≤ 1048576) (hp : shortH hs) (hk : 3000000 < k) : ∃ b, laws_markGround.f k ds hs 1 = some b ∧ 0 ≤ b.1 ∧ b.1 ≤ 3000000000000 := by
  unfold laws_markGround.f
  have hc := cntHole_le hs hp.2
  have hl := hp.1
  have hm : 1048577 * hs.length ≤ 1048577 * 1048576 := Nat.mul_le_mul_left _ hl
  rw [markInt_is k ds 1 (by omega) (by omega) (by omega), bind_some_]
  try dsimp only
  rw [markHole_is k hs (1 + ds.length) hp ⟨by omega, by omega⟩ (by omega), bind_some_]
  exact ⟨_, rfl, by dsimp only; omega, by dsimp only; omega⟩
theorem FnExactAddHole : laws_FnExactAddHole.Pure := by
  intro ds hs a t hw1 hw2 _ hw4
  obtain ⟨F, hF⟩ : ∃ F, F = 20000000 := ⟨_, rfl⟩
  obtain ⟨q, hq, hq2, hs2⟩ := szGround_is F ds hs hw1.1 hw2.1 (fun s hs => (hw2.2 s hs).2.1) (by omega)
  refine ⟨F, ?_⟩
  unfold laws_FnExactAddHole.f
  rw [hq, bind_some_]
  by_cases c : q < 0
  · rw [if_pos c]
  · obtain ⟨h1, h2, h3⟩ := hs2.resolve_left c
    obtain ⟨q2, hq3, hs3⟩ := szHole_is a t q ⟨by omega, hq2⟩ (by have h_ := hw4.1; (try unfold maxLen at h_); omega)
    rw [if_neg c, hq3, bind_some_]
    by_cases c2 : q2 < 0
    · rw [if_pos c2]
    · have ht := hs3.resolve_left c2
      have hsh := toHole_short h2 h3
      obtain ⟨e1, e2⟩ := addP_short ds (hs.map toHole) a t h1 hsh ht
      obtain ⟨v, hv⟩ : ∃ v, addP ds (hs.map toHole) a t = v := ⟨_, rfl⟩
      rw [hv] at e1 e2
      obtain ⟨⟨m, b0, b1⟩, q5, q6, q7⟩ := markGround_le F ds (hs.map toHole) h1 hsh (by omega)
      dsimp only at q6 q7
      obtain ⟨b, hb, hb0, hh⟩ := markedGround F v.1 v.2.1 e1 e2 (by omega)
      have hheld := hh F (by omega)
      have hto : laws_toHole.f F a t = some (a, t) := by
        unfold laws_toHole.f
        rw [toInt_is F t (by omega) (by omega), bind_some_]
      have heq : laws_eqHole.f F a t a t = some true := by
        unfold laws_eqHole.f
        rw [if_pos rfl, eqInt_is F t t (by omega) (by omega), bind_some_, if_pos (decide_eq_true rfl)]
      have hmk : ∃ x, laws_markHole.f F a t m = some x ∧ 0 ≤ x.1 := by
        unfold laws_markHole.f
        rw [markInt_is F t m (by omega) (by omega) (by omega), bind_some_]
        exact ⟨_, rfl, by dsimp only; omega⟩
      obtain ⟨x, hx, hx0⟩ := hmk
      rw [if_neg c2, toGround_is F ds hs h1 h2 h3 (by omega), bind_some_, hto, bind_some_]
      try dsimp only
      rw [specAddHole_is F ds _ a t h1 hsh ht (by omega), bind_some_, implAddHole_is F ds _ a t h1 hsh ht (by omega), bind_some_, hv, eqGround_refl F v.1 v.2.1 e1 e2 (by omega), bind_some_, if_pos rfl, if_pos rfl, eqGround_refl F ds _ h1 hsh (by omega), bind_some_, if_pos rfl, heq, bind_some_, if_pos rfl, q5, bind_some_]
      try dsimp only
      rw [hx, bind_some_, if_neg (by omega), hb, bind_some_, hheld, bind_some_, if_neg (by omega), if_pos rfl]

end Go.Proofs.Ytcfkpljmihijiaa.Pure
