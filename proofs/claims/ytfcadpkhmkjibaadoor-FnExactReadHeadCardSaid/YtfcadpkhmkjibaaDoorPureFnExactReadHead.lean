/- The program's ReadHead returns what the reference's returns, for all arguments; no condition. -/
import Derived.Test.YtfcadpkhmkjibaaDoorCFnExactReadHead4
import Derived.Test.YtfcadpkhmkjibaaDoorCFnExactReadHead0
import Derived.Test.YtfcadpkhmkjibaaDoorCFnExactReadHead1
import Derived.Test.YtfcadpkhmkjibaaDoorCFnExactReadHead3
namespace Go.Proofs.YtfcadpkhmkjibaaDoor.Pure
open Go.RowKit Go.Proofs.YtfcadpkhmkjibaaDoor.P Go.Proofs.YtfcadpkhmkjibaaDoorW.PrintWords Go.Proofs.YtfcadpkhmkjibaaDoorW.PrintLast Go.Proofs.YtfcadpkhmkjibaaDoorW.PrintMore
set_option linter.unusedVariables false
set_option linter.unusedSimpArgs false
theorem markHead_is (k : Nat) (cs : List S77) (fc st : List Int) (x y : Int) (hc : cs.length ≤ 1048576) (hb : fc.length ≤ 1048576) (hs : st.length ≤ 1048576) (hk : cs.length + fc.length + st.length < k) :
    laws_markHead.f k cs fc st x y 1 = some (1 + 2 * (cs.length : Int) + (fc.length : Int) + (st.length : Int), iotaCutter 1 cs.length, iota (1 + 2 * (cs.length : Int)) fc.length, iota (1 + 2 * (cs.length : Int) + (fc.length : Int)) st.length) := by
  unfold laws_markHead.f
  rw [markCutterS_is k cs 1 (by omega) (by omega) (by omega), bind_some_]
  try dsimp only
  rw [markInt_is k fc _ (by omega) (by omega) (by omega), bind_some_]
  try dsimp only
  rw [markInt_is k st _ (by omega) (by omega) (by omega), bind_some_]
theorem heldHead_is (k : Nat) (n f t : Nat) (x y : Int) (hc : n ≤ 1048576) (hb : f ≤ 1048576) (hs : t ≤ 1048576) (hk : n + f + t < k) :
    laws_heldHead.f k (iotaCutter 1 n) (iota (1 + 2 * (n : Int)) f) (iota (1 + 2 * (n : Int) + (f : Int)) t) x y 1 = some (1 + 2 * (n : Int) + (f : Int) + (t : Int)) := by
  unfold laws_heldHead.f
  rw [heldCutterS_is k n 1 (by omega) (by omega) (by omega), bind_some_, if_neg (by omega), heldInt_is k f _ (by omega) (by omega) (by omega), bind_some_, if_neg (by omega), heldInt_is k t _ (by omega) (by omega) (by omega), bind_some_, if_neg (by omega)]
theorem goodH_len {r : List S77 × List Int × List Int × Int × Int × Bool} {s : List UInt8} (h : GoodH r s) : r.1.length ≤ 5 ∧ r.2.1.length ≤ 60 ∧ r.2.2.1.length ≤ 8 := by
  rcases h.1 with e | ⟨cs, fc, st, x, y, e, h1, _⟩
  · rw [e]
    exact ⟨Nat.zero_le _, Nat.zero_le _, Nat.zero_le _⟩
  · rw [e]
    have v := hdOk_vals h1
    exact ⟨v.cn.2, v.fn, v.sn⟩
theorem FnExactReadHead : laws_FnExactReadHead.Pure := by
  intro a0 _
  obtain ⟨F, hF⟩ : ∃ F, F = 40000010 := ⟨_, rfl⟩
  refine ⟨F, ?_⟩
  unfold laws_FnExactReadHead.f
  obtain ⟨s, rfl⟩ : ∃ s, a0 = tx s := ⟨a0.data.toList, (tx_of a0).symm⟩
  rw [tx_size]
  by_cases h : (s.length : Int) > 1048576
  · rw [if_pos h]
  · obtain ⟨q, hq, gq⟩ := specReadHead_good F s (by omega) (by omega)
    obtain ⟨r, hr, gr⟩ := implReadHead_good F s (by omega) (by omega)
    have e : r = q := goodH_eq gr gq
    subst e
    obtain ⟨n1, n2, n3⟩ := goodH_len gr
    rw [if_neg h, hq, bind_some_, hr, bind_some_, eqHead_refl F r.1 r.2.1 r.2.2.1 _ _ (by omega) (by omega) (by omega) (by omega), bind_some_, if_pos rfl, bne_self_eq_false]
    obtain ⟨G, rfl⟩ : ∃ G, F = G + 2 := ⟨F - 2, by omega⟩
    obtain ⟨r', hr', gr'⟩ := implReadHead_good (G + 1) s (by omega) (by omega)
    have e' : r' = r := goodH_eq gr' gr
    subst e'
    simp only [laws_FnExactReadHead.j0]
    rw [if_neg (by simp), markHead_is (G + 1) r'.1 r'.2.1 r'.2.2.1 _ _ (by omega) (by omega) (by omega) (by omega), bind_some_]
    try dsimp only
    rw [heldHead_is (G + 1) _ _ _ _ _ (by omega) (by omega) (by omega) (by omega), bind_some_, if_neg (by omega), if_pos rfl, hr', bind_some_, eqHead_refl (G + 1) r'.1 r'.2.1 r'.2.2.1 _ _ (by omega) (by omega) (by omega) (by omega), bind_some_, if_pos rfl, bne_self_eq_false]
    simp only [laws_FnExactReadHead.j1]
    rw [if_neg (by simp), heldHead_is G _ _ _ _ _ (by omega) (by omega) (by omega) (by omega), bind_some_, if_neg (by omega), if_pos rfl]

end Go.Proofs.YtfcadpkhmkjibaaDoor.Pure
