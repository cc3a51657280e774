/- The program's NeedsOf returns what the reference's returns, for all arguments; no condition. -/
import Derived.Test.YtagmaflnnaonjaaCFnExactNeedsOf2
import Derived.Test.YtagmaflnnaonjaaCFnExactNeedsOf0
import Derived.Test.YtagmaflnnaonjaaCFnExactNeedsOf1
namespace Go.Proofs.Ytagmaflnnaonjaa.Pure
open Go.RowKit Go.Proofs.Ytagmaflnnaonjaa.P Go.Proofs.YtagmaflnnaonjaaW.PrintWords Go.Proofs.YtagmaflnnaonjaaW.PrintLast Go.Proofs.YtagmaflnnaonjaaW.PrintMore
set_option linter.unusedVariables false
set_option linter.unusedSimpArgs false
theorem stintsGo_rows (cs : List S154) (fc st : List Int) (a : Nat) : ∀ (d b : Nat) (acc : List (List Int)), (∀ r ∈ acc, r.length = 2) → ∀ r ∈ (stintsGo cs fc st a d b acc).1, r.length = 2
  | 0, _, _, _ => by simp [stintsGo]
  | d + 1, b, acc, h => by
    simp only [stintsGo]
    split
    · exact h
    · split
      · simp
      · refine stintsGo_rows cs fc st a d _ _ ?_
        intro r hr
        rcases List.mem_append.mp hr with h1 | h1
        · exact h r h1
        · rw [List.mem_singleton.mp h1]
          rfl
theorem stintsGo_bad (cs : List S154) (fc st : List Int) (a : Nat) : ∀ (d b : Nat) (acc : List (List Int)), (stintsGo cs fc st a d b acc).2 = false → (stintsGo cs fc st a d b acc).1 = []
  | 0, _, _ => by simp [stintsGo]
  | d + 1, b, acc => by
    simp only [stintsGo]
    split
    · intro h
      exact absurd h (by simp)
    · split
      · intro _
        rfl
      · exact stintsGo_bad cs fc st a d _ _
theorem needsBoth (cs : List S154) (fc st : List Int) (x y w : Int) (hc : cs.length ≤ 1048576) (hb : fc.length ≤ 1048576) (hs : st.length ≤ 1048576) : ∃ rs : List (List Int), ∃ ok : Bool, rs.length ≤ 61 ∧ (∀ r ∈ rs, r.length = 2) ∧ ∀ k : Nat, 4000000 ≤ k → spec_NeedsOf.f k cs fc st x y w = some (rs, ok) ∧ impl_NeedsOf.f k cs fc st x y w = some (rs, ok) := by
  have hw := w64 ((cs.length : Int) - 1) (by omega) (by omega)
  by_cases hh : hdOk cs fc st x y = true
  · have hin := hdOk_in hh
    by_cases hi : 0 ≤ w ∧ w ≤ (cs.length : Int) - 1
    · obtain ⟨a, rfl⟩ : ∃ a : Nat, w = a := ⟨w.toNat, by omega⟩
      refine ⟨(stints cs fc st a).1, (stints cs fc st a).2, by have := stints_len cs fc st a; omega, stintsGo_rows cs fc st a _ _ _ (by simp), ?_⟩
      intro k hk
      obtain ⟨k, rfl⟩ : ∃ m, k = m + 1 := ⟨k - 1, by omega⟩
      have hm : (fc.length + 1) * (st.length + 2) ≤ 61 * 10 := Nat.mul_le_mul (by omega) (by omega)
      constructor
      · unfold spec_NeedsOf.f
        rw [specIs_is _ cs fc st x y hc hb hs (by omega), bind_some_, if_pos hh, in_is, bind_some_, hw, decide_eq_true hi]
        simp only [spec_NeedsOf.j0]
        rw [if_neg (by simp), specStints_is k cs fc st x y hb hs a (by omega) (by omega), bind_some_]
        cases h : (stints cs fc st a).2 with
        | true => rw [if_pos rfl]
        | false =>
          have h0 : (stints cs fc st a).1 = [] := stintsGo_bad cs fc st a _ _ _ h
          rw [if_neg (by simp), h0]
      · unfold impl_NeedsOf.f
        rw [implHead_is _ cs fc st x y hc hb hs (by omega), bind_some_, if_pos hh, within_is, bind_some_, hw, if_pos (decide_eq_true hi), implStints_is _ cs fc st x y hb hs a (by omega) (by omega), bind_some_]
    · refine ⟨[], false, by simp, by simp, ?_⟩
      intro k hk
      obtain ⟨k, rfl⟩ : ∃ m, k = m + 1 := ⟨k - 1, by omega⟩
      constructor
      · unfold spec_NeedsOf.f
        rw [specIs_is _ cs fc st x y hc hb hs (by omega), bind_some_, if_pos hh, in_is, bind_some_, hw, decide_eq_false hi]
        simp only [spec_NeedsOf.j0]
        rw [if_pos (by simp)]
      · unfold impl_NeedsOf.f
        rw [implHead_is _ cs fc st x y hc hb hs (by omega), bind_some_, if_pos hh, within_is, bind_some_, hw, if_neg (by simpa using hi)]
  · refine ⟨[], false, by simp, by simp, ?_⟩
    intro k hk
    obtain ⟨k, rfl⟩ : ∃ m, k = m + 1 := ⟨k - 1, by omega⟩
    constructor
    · unfold spec_NeedsOf.f
      rw [specIs_is _ cs fc st x y hc hb hs (by omega), bind_some_, if_neg hh]
      simp only [spec_NeedsOf.j0]
      rw [if_pos (by simp)]
    · unfold impl_NeedsOf.f
      rw [implHead_is _ cs fc st x y hc hb hs (by omega), bind_some_, if_neg hh]
theorem cntSS_pairs : ∀ rs : List (List Int), (∀ r ∈ rs, r.length = 2) → cntSS rs = 2 * rs.length
  | [], _ => rfl
  | r :: rs, h => by
    have h1 := h r (by simp)
    have h2 := cntSS_pairs rs (fun q hq => h q (by simp [hq]))
    simp only [cntSS, List.length_cons]
    omega
theorem markHead_some (k : Nat) (cs : List S154) (fc st : List Int) (x y : Int) (hc : cs.length ≤ 1048576) (hb : fc.length ≤ 1048576) (hs : st.length ≤ 1048576) (hk : cs.length + fc.length + st.length < k) : ∃ b, laws_markHead.f k cs fc st x y 1 = some b ∧ ¬ b.1 < 0 := by
  refine ⟨(1 + 2 * (cs.length : Int) + fc.length + st.length, iotaCutter 1 cs.length, iota (1 + 2 * (cs.length : Int)) fc.length, iota (1 + 2 * (cs.length : Int) + fc.length) st.length), ?_, ?_⟩
  · unfold laws_markHead.f
    rw [markCutterS_is k cs 1 (by omega) (by omega) (by omega), bind_some_]
    try dsimp only
    rw [markInt_is k fc (1 + 2 * (cs.length : Int)) (by omega) (by omega) (by omega), bind_some_]
    try dsimp only
    rw [markInt_is k st (1 + 2 * (cs.length : Int) + fc.length) (by omega) (by omega) (by omega), bind_some_]
  · dsimp only
    omega
theorem FnExactNeedsOf : laws_FnExactNeedsOf.Pure := by
  intro cs fc st x y w hw1 hw2 hw3 _ _ _
  obtain ⟨r, hr, hs⟩ := szHead_is cs fc st x y hw1.1 hw2.1 hw3.1
  by_cases h : r < 0
  · refine ⟨0, ?_⟩
    unfold laws_FnExactNeedsOf.f
    rw [hr, bind_some_, if_pos h]
  · obtain ⟨h1, h2, h3⟩ := hs.resolve_left h
    have hl : (cs.map toCutter).length = cs.length := List.length_map ..
    obtain ⟨rs, ok, hr1, hr2, hr3⟩ := needsBoth (cs.map toCutter) fc st x y w (by omega) h2 h3
    have hc := cntSS_pairs rs hr2
    obtain ⟨F, hF⟩ : ∃ F, F = 20000000 := ⟨_, rfl⟩
    obtain ⟨q1, q2⟩ := hr3 F (by omega)
    obtain ⟨q3, q4⟩ := markSS_is F rs (by omega) (by omega) (by omega)
    obtain ⟨⟨m, b0, b1, b2⟩, q5, q6⟩ := markHead_some F (cs.map toCutter) fc st x y (by omega) h2 h3 (by omega)
    refine ⟨F, ?_⟩
    unfold laws_FnExactNeedsOf.f
    rw [hr, bind_some_, if_neg h, toHead_is F cs fc st x y h1 h2 h3 (by omega), bind_some_]
    try dsimp only
    rw [q1, bind_some_, q2, bind_some_]
    try dsimp only
    rw [eqSS_refl F rs (by omega) (fun r hr => by have := hr2 r hr; omega) (by omega), bind_some_, if_pos rfl, if_pos rfl, eqHead_refl F _ fc st x y (by omega) h2 h3 (by omega), bind_some_, if_pos rfl, q5, bind_some_]
    try dsimp only
    rw [if_neg q6, q3, bind_some_]
    try dsimp only
    rw [q4, bind_some_, if_neg (by omega), if_pos rfl]

end Go.Proofs.Ytagmaflnnaonjaa.Pure
