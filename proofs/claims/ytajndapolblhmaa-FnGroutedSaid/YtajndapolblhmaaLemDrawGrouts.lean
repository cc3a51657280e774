/- What a law draws is a valid list of few grouts. -/
import Derived.Test.YtajndapolblhmaaLemCore
import Derived.Test.YtajndapolblhmaaLemDraw
import Derived.Test.YtajndapolblhmaaLemGrouts
import Derived.Test.YtajndapolblhmaaLemUpTo
import Derived.Test.YtajndapolblhmaaPx0
import Derived.Test.YtajndapolblhmaaPx32
import Derived.Test.YtajndapolblhmaaPx5
namespace Go.Proofs.Ytajndapolblhmaa.P
open Go.RowKit Go.Proofs.Ytajndapolblhmaa.P Go.Proofs.YtajndapolblhmaaW.PrintWords Go.Proofs.YtajndapolblhmaaW.PrintLast Go.Proofs.YtajndapolblhmaaW.PrintMore
set_option linter.unusedVariables false
set_option linter.unusedSimpArgs false
def grFine (g : S40) : Prop := (0 ≤ g.f0 ∧ g.f0 ≤ 23) ∧ (0 ≤ g.f1 ∧ g.f1 ≤ 3000) ∧ (0 ≤ g.f2 ∧ g.f2 ≤ 3000) ∧ (0 ≤ g.f3 ∧ g.f3 ≤ 30)
def grRise (l : List S40) (top : Int) : Prop := (∀ i, i < l.length → grFine (rd_T40 l i) ∧ (rd_T40 l i).f0 < top) ∧ (∀ i, i + 1 < l.length → (rd_T40 l i).f0 < (rd_T40 l (i + 1 : Nat)).f0)
theorem rdGrout_app (l : List S40) (g : S40) (i : Nat) : rd_T40 (l ++ [g]) i = if i < l.length then rd_T40 l i else if i = l.length then g else z40 := by
  unfold rd_T40
  rw [Int.toNat_natCast, List.getD_eq_getElem?_getD, List.getD_eq_getElem?_getD]
  by_cases h : i < l.length
  · rw [if_pos h, List.getElem?_append_left h]
  · rw [if_neg h, List.getElem?_append_right (by omega)]
    by_cases h2 : i = l.length
    · rw [if_pos h2]; subst h2; simp
    · rw [if_neg h2]
      have : i - l.length ≠ 0 := by omega
      obtain ⟨m, hm⟩ : ∃ m, i - l.length = m + 1 := ⟨i - l.length - 1, by omega⟩
      rw [hm]; rfl
theorem grRise_app (l : List S40) (g : S40) (top t2 : Int) (h : grRise l top) (hg : grFine g) (h1 : top ≤ g.f0) (h2 : g.f0 < t2) : grRise (l ++ [g]) t2 := by
  obtain ⟨a, b⟩ := h
  constructor
  · intro i hi
    rw [rdGrout_app]
    by_cases e : i < l.length
    · rw [if_pos e]; have := a i e; exact ⟨this.1, by omega⟩
    · rw [if_neg e, if_pos (by simp at hi; omega)]; exact ⟨hg, h2⟩
  · intro i hi
    rw [rdGrout_app, rdGrout_app, if_pos (by simp at hi; omega)]
    by_cases e : i + 1 < l.length
    · rw [if_pos e]; exact b i e
    · rw [if_neg e, if_pos (by simp at hi; omega)]; have := a i (by simp at hi; omega); omega
theorem grRise_valid (l : List S40) (top : Int) (h : grRise l top) (hl : l.length ≤ 12) : grValid l = true := by
  obtain ⟨a, b⟩ := h
  unfold grValid
  rw [Bool.and_eq_true]
  refine ⟨(upTo_iff _ _ _).2 (fun j _ hj => ?_), by simp; omega⟩
  obtain ⟨⟨f0, f1, f2, f3⟩, _⟩ := a j (by omega)
  unfold grOk
  simp only [Bool.and_eq_true, Bool.or_eq_true, decide_eq_true_eq]
  refine ⟨⟨⟨⟨by omega, by omega⟩, by omega⟩, by omega⟩, ?_⟩
  by_cases e : j = 0
  · exact .inl e
  · right
    obtain ⟨i, rfl⟩ : ∃ i, j = i + 1 := ⟨j - 1, by omega⟩
    exact b i (by omega)
theorem drawGrouts_loop (c : List Int) (hc : ∀ x ∈ c, (Lit.int .u8 x).wf = true) : ∀ (d k : Nat) (l : List S40) (ring s e : Int), d < k → l.length + d ≤ 6 → grRise l ring → (0 ≤ ring ∧ ring ≤ 5 + 3 * (l.length : Int)) → (0 ≤ s ∧ s ≤ 1000 + 8 * (l.length : Int)) →
    ∃ r, spec_B10Grouts.l0 k l ring d c s e = some r ∧ grValid r = true ∧ r.length = l.length + d ∧ (∀ i, i < r.length → grFine (rd_T40 r i)) := by
  intro d
  induction d with
  | zero =>
    intro k l ring s e hk hl hr hring hs
    obtain ⟨k, rfl⟩ : ∃ m, k = m + 1 := ⟨k - 1, by omega⟩
    simp only [spec_B10Grouts.l0]
    rw [if_neg (by omega)]
    exact ⟨l, rfl, grRise_valid l ring hr (by omega), rfl, fun i hi => (hr.1 i hi).1⟩
  | succ d ih =>
    intro k l ring s e hk hl hr hring hs
    obtain ⟨k, rfl⟩ : ∃ m, k = m + 1 := ⟨k - 1, by omega⟩
    simp only [spec_B10Grouts.l0]
    obtain ⟨a, s1, e1, h1, a1, b1⟩ := pick_in c hc s e 3000 (by omega) (by omega)
    obtain ⟨b, s2, e2, h2, a2, b2⟩ := pick_in c hc s1 e1 3000 (by omega) (by omega)
    obtain ⟨f, s3, e3, h3, a3, b3⟩ := pick_in c hc s2 e2 30 (by omega) (by omega)
    obtain ⟨g, s4, e4, h4, a4, b4⟩ := pick_in c hc s3 e3 3 (by omega) (by omega)
    rw [if_pos (by omega), h1]
    simp only [bind_some_, h2, h3, h4]
    rw [if_pos (by omega), w64 (1 + g) (by omega) (by omega), w64 (ring + (1 + g)) (by omega) (by omega), w64 (((d + 1 : Nat) : Int) - 1) (by omega) (by omega), show ((d + 1 : Nat) : Int) - 1 = (d : Int) by omega]
    obtain ⟨r, q1, q2, q3, q4⟩ := ih k (l ++ [⟨ring, a, b, f⟩]) (ring + (1 + g)) s4 e4 (by omega) (by simp; omega) (grRise_app l _ ring _ hr ⟨by simp only; omega, by simp only; omega, by simp only; omega, by simp only; omega⟩ (by simp only; omega) (by simp only; omega)) (by simp; omega) (by simp; omega)
    exact ⟨r, q1, q2, by rw [q3]; simp; omega, q4⟩
theorem drawGrouts_is (c : List Int) (hc : ∀ x ∈ c, (Lit.int .u8 x).wf = true) (k : Nat) (hk : 10 ≤ k) : ∃ r, spec_B10Grouts.f k c = some r ∧ grValid r = true ∧ r.length ≤ 6 ∧ (∀ i, i < r.length → grFine (rd_T40 r i)) := by
  unfold spec_B10Grouts.f spec_l00From.f
  obtain ⟨a, s1, e1, h1, a1, b1⟩ := pick_in c hc 0 0 6 (by omega) (by omega)
  obtain ⟨b, s2, e2, h2, a2, b2⟩ := pick_in c hc s1 e1 6 (by omega) (by omega)
  simp only [bind_some_, h1, h2]
  obtain ⟨n, hn⟩ : ∃ n : Nat, 1 + b = n := ⟨(1 + b).toNat, by omega⟩
  rw [w64 (1 + b) (by omega) (by omega), hn]
  obtain ⟨r, q1, q2, q3, q4⟩ := drawGrouts_loop c hc n k [] a s2 e2 (by omega) (by simp; omega) ⟨fun i hi => by simp at hi, fun i hi => by simp at hi⟩ (by simp; omega) (by simp; omega)
  exact ⟨r, q1, q2, by rw [q3]; simp; omega, q4⟩

end Go.Proofs.Ytajndapolblhmaa.P
