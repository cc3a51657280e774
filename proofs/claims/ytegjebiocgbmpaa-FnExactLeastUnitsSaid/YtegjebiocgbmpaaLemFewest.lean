/- What the reference's table holds: the unit at a point and the least that is needed behind it. -/
import Derived.Test.YtegjebiocgbmpaaLemCore
import Derived.Test.YtegjebiocgbmpaaLemLeast
import Derived.Test.YtegjebiocgbmpaaPx0
import Derived.Test.YtegjebiocgbmpaaPx1
import Derived.Test.YtegjebiocgbmpaaPx5
namespace Go.Proofs.Ytegjebiocgbmpaa.P
open Go.RowKit Go.Proofs.Ytegjebiocgbmpaa.P Go.Proofs.YtegjebiocgbmpaaW.PrintWords Go.Proofs.YtegjebiocgbmpaaW.PrintLast Go.Proofs.YtegjebiocgbmpaaW.PrintMore
set_option linter.unusedVariables false
set_option linter.unusedSimpArgs false
def bestS (ns : List Int) (i : Nat) (a b : Int) (v : Int → Int) : Nat → Int → Int → Int
  | 0, _, best => best
  | d + 1, c, best => if v c < 0 then bestS ns i a b v d (c + 1) best else if a + 2 * b + c < rd ns (i : Int) then bestS ns i a b v d (c + 1) best else if best < 0 then bestS ns i a b v d (c + 1) (b + v c) else if b + v c < best then bestS ns i a b v d (c + 1) (b + v c) else bestS ns i a b v d (c + 1) best
def tvU (ns : List Int) (i : Nat) (a b : Int) : Int := if i = ns.length then (if b > 0 then -1 else 0) else if restU ns (ns.length - 1 - i) a b < 1000 then b + restU ns (ns.length - 1 - i) a b else -1
theorem restU_small (ns : List Int) (d : Nat) (a b : Int) (h : restU ns d a b < 1000) : restU ns d a b ≤ 6 * d := by
  obtain ⟨_, h2, h3, h4⟩ := goodU_is ns d a b h
  have : ∀ l : List Int, (∀ v ∈ l, 0 ≤ v ∧ v ≤ 6) → l.sum ≤ 6 * l.length := by
    intro l
    induction l with
    | nil => intro _; simp
    | cons x l ih =>
      intro hx
      have h1 := hx x (by simp)
      have h2 := ih (fun v hv => hx v (List.mem_cons_of_mem _ hv))
      rw [List.sum_cons, List.length_cons]
      omega
  have h5 := this _ h4
  rw [h2, h3] at h5
  exact h5
theorem bestS_mid (ns : List Int) (i : Nat) (a b : Int) (R : Int → Int) (v : Int → Int) (hb : 0 ≤ b) (hR : ∀ c, 0 ≤ c → c ≤ 6 → 0 ≤ R c ∧ (R c < 1000 → R c ≤ 100)) (hv : ∀ c, 0 ≤ c → c ≤ 6 → v c = if R c < 1000 then c + R c else -1) : ∀ (d : Nat) (c B : Int), c + d = 7 → 0 ≤ c → (0 ≤ B ∧ (B < 1000 → B ≤ 200)) → B ≤ 1000 →
    bestS ns i a b v d c (if B < 1000 then b + B else -1) = if bestC ns (i + 1) a b R d c B < 1000 then b + bestC ns (i + 1) a b R d c B else -1
  | 0, c, B, _, _, _, _ => rfl
  | d + 1, c, B, hd, hc, hB, hB2 => by
    have hr := hR c hc (by omega)
    have hvc := hv c hc (by omega)
    simp only [bestS]
    rw [show bestC ns (i + 1) a b R (d + 1) c B = bestC ns (i + 1) a b R d (c + 1) (if mayC ns (i + 1) a b c then min B (c + R c) else B) from rfl]
    have ih := fun B' => bestS_mid ns i a b R v hb hR hv d (c + 1) B' (by omega) (by omega)
    have hm : mayC ns (i + 1) a b c ↔ ¬ a + 2 * b + c < rd ns (i : Int) := by
      unfold mayC
      rw [show i + 1 - 1 = i by omega]
      constructor
      · intro h
        rcases h with h | h <;> omega
      · intro h
        exact Or.inr (by omega)
    by_cases q : R c < 1000
    · rw [if_pos q] at hvc
      rw [hvc, if_neg (by omega)]
      by_cases m : a + 2 * b + c < rd ns (i : Int)
      · rw [if_pos m, if_neg (fun h => hm.mp h m)]
        exact ih B hB hB2
      · rw [if_neg m, if_pos (hm.mpr m)]
        by_cases z : B < 1000
        · rw [if_pos z, if_neg (by omega)]
          by_cases y : b + (c + R c) < b + B
          · rw [if_pos y]
            have := ih (c + R c) ⟨by omega, by omega⟩ (by omega)
            rw [if_pos (by omega)] at this
            rw [this, show min B (c + R c) = c + R c by omega]
          · rw [if_neg y]
            have := ih B hB hB2
            rw [if_pos z] at this
            rw [this, show min B (c + R c) = B by omega]
        · rw [if_neg z, if_pos (by omega)]
          have := ih (c + R c) ⟨by omega, by omega⟩ (by omega)
          rw [if_pos (by omega)] at this
          rw [this, show min B (c + R c) = c + R c by omega]
    · rw [if_neg q] at hvc
      rw [hvc, if_pos (by omega)]
      have := ih B hB hB2
      by_cases m : mayC ns (i + 1) a b c
      · rw [if_pos m, show min B (c + R c) = B by omega]
        exact this
      · rw [if_neg m]
        exact this
theorem bestS_succ (ns : List Int) (i : Nat) (a b : Int) (v : Int → Int) (d : Nat) (c best : Int) : bestS ns i a b v (d + 1) c best = if v c < 0 then bestS ns i a b v d (c + 1) best else if a + 2 * b + c < rd ns (i : Int) then bestS ns i a b v d (c + 1) best else if best < 0 then bestS ns i a b v d (c + 1) (b + v c) else if b + v c < best then bestS ns i a b v d (c + 1) (b + v c) else bestS ns i a b v d (c + 1) best := rfl
theorem bestS_none (ns : List Int) (i : Nat) (a b : Int) (v : Int → Int) : ∀ (d : Nat) (c B : Int), 1 ≤ c → c + d = 7 → (∀ c, 1 ≤ c → c ≤ 6 → v c = -1) → bestS ns i a b v d c B = B
  | 0, c, B, _, _, _ => rfl
  | d + 1, c, B, h, hd, hv => by
    simp only [bestS]
    rw [hv c h (by omega), if_pos (by omega)]
    exact bestS_none ns i a b v d (c + 1) B (by omega) (by omega) hv
theorem bestS_tv (ns : List Int) (hl : ns.length ≤ 12) (i : Nat) (hi : i < ns.length) (a b : Int) (hb : 0 ≤ b) : bestS ns i a b (fun c => tvU ns (i + 1) b c) 7 0 (-1) = tvU ns i a b := by
  unfold tvU
  rw [if_neg (show ¬ i = ns.length by omega)]
  by_cases e : i + 1 = ns.length
  · rw [show ns.length - 1 - i = 0 by omega]
    obtain ⟨v, hv⟩ : ∃ v : Int → Int, v = fun c => if i + 1 = ns.length then (if c > 0 then -1 else 0) else if restU ns (ns.length - 1 - (i + 1)) b c < 1000 then c + restU ns (ns.length - 1 - (i + 1)) b c else -1 := ⟨_, rfl⟩
    have v0 : v 0 = 0 := by rw [hv]; dsimp only; rw [if_pos e, if_neg (by omega)]
    have v1 : ∀ c, 1 ≤ c → c ≤ 6 → v c = -1 := fun c h1 h2 => by rw [hv]; dsimp only; rw [if_pos e, if_pos (by omega)]
    rw [← hv]
    show bestS ns i a b v (6 + 1) 0 (-1) = _
    rw [bestS_succ, v0, if_neg (by omega)]
    have hx : ((ns.length - 1 : Nat) : Int) = (i : Int) := by omega
    by_cases q : a + 2 * b < rd ns (i : Int)
    · have hr : restU ns 0 a b = 1000 := by
        show (if 0 < ns.length ∧ a + 2 * b < rd ns ((ns.length - 1 : Nat) : Int) then (1000 : Int) else 0) = 1000
        rw [hx, if_pos ⟨by omega, q⟩]
      rw [hr, if_pos (show a + 2 * b + 0 < rd ns (i : Int) by omega), if_neg (by omega)]
      exact bestS_none ns i a b v 6 1 (-1) (by omega) (by omega) v1
    · have hr : restU ns 0 a b = 0 := by
        show (if 0 < ns.length ∧ a + 2 * b < rd ns ((ns.length - 1 : Nat) : Int) then (1000 : Int) else 0) = 0
        rw [hx, if_neg (fun h => q h.2)]
      rw [hr, if_neg (show ¬ a + 2 * b + 0 < rd ns (i : Int) by omega), if_pos (by omega), if_pos (by omega)]
      exact bestS_none ns i a b v 6 1 (b + 0) (by omega) (by omega) v1
  · obtain ⟨d, hd⟩ : ∃ d, ns.length - 1 - i = d + 1 := ⟨ns.length - 1 - i - 1, by omega⟩
    have h := bestS_mid ns i a b (fun c => restU ns d b c) (fun c => if i + 1 = ns.length then (if c > 0 then -1 else 0) else if restU ns (ns.length - 1 - (i + 1)) b c < 1000 then c + restU ns (ns.length - 1 - (i + 1)) b c else -1) hb (fun c h1 h2 => ⟨(restU_in ns d b c).1, fun q => by have := restU_small ns d b c q; omega⟩) (fun c h1 h2 => by
      rw [if_neg e, show ns.length - 1 - (i + 1) = d by omega]) 7 0 1000 (by omega) (by omega) ⟨by omega, by omega⟩ (by omega)
    rw [if_neg (by omega : ¬ (1000 : Int) < 1000)] at h
    rw [hd, show restU ns (d + 1) a b = bestC ns (ns.length - (d + 1)) a b (fun c => restU ns d b c) 7 0 1000 from rfl, show ns.length - (d + 1) = i + 1 by omega]
    exact h
theorem specRest_loop (ns : List Int) (hn : ns.length ≤ 12) (hv0 : ∀ x ∈ ns, 0 ≤ x ∧ x ≤ 12) (T : List (List (List Int))) (i : Nat) (hi : i < ns.length) (hT : T.length = ns.length + 1) (a b : Int) (ha : 0 ≤ a ∧ a ≤ 6) (hb : 0 ≤ b ∧ b ≤ 6) (h7 : (rd_L3 T ((i + 1 : Nat) : Int)).length = 7) (h77 : (rd_L2 (rd_L3 T ((i + 1 : Nat) : Int)) b).length = 7) (v : Int → Int) (hv : ∀ c, 0 ≤ c → c ≤ 6 → rd (rd_L2 (rd_L3 T ((i + 1 : Nat) : Int)) b) c = v c ∧ v c ≤ 1000) :
    ∀ (d k : Nat) (c best : Int), c + d = 7 → 0 ≤ c → 2 * d < k → spec_l07Rest.l0 k ns T (i : Int) a b best c = some (bestS ns i a b v d c best) := by
  intro d
  induction d with
  | zero =>
    intro k c best hc h0 hk
    obtain ⟨k, rfl⟩ : ∃ m, k = m + 1 := ⟨k - 1, by omega⟩
    simp only [spec_l07Rest.l0]
    rw [if_neg (by omega)]
    rfl
  | succ d ih =>
    intro k c best hc h0 hk
    obtain ⟨k, rfl⟩ : ∃ m, k = m + 2 := ⟨k - 2, by omega⟩
    have hvc := hv c h0 (by omega)
    have w1 : wrap64 ((i : Int) + 1) = ((i + 1 : Nat) : Int) := w64s i (by omega)
    have w2 : wrap64 (c + 1) = c + 1 := by clear w1; unfold wrap64; omega
    have w3 : wrap64 (2 * b) = 2 * b := by clear w1 w2; unfold wrap64; omega
    have w4 : wrap64 (a + 2 * b) = a + 2 * b := by clear w1 w2 w3; unfold wrap64; omega
    have w5 : wrap64 (a + 2 * b + c) = a + 2 * b + c := by clear w1 w2 w3 w4; unfold wrap64; omega
    have st := fun best => ih k (c + 1) best (by clear w1 w2 w3 w4 w5; omega) (by clear w1 w2 w3 w4 w5; omega) (by clear w1 w2 w3 w4 w5; omega)
    have q1 : c ≤ 6 := by clear w1 w2 w3 w4 w5; omega
    have q2 : (0 : Int) ≤ ((i + 1 : Nat) : Int) := by clear w1 w2 w3 w4 w5; omega
    have q3 : ((i + 1 : Nat) : Int) < (T.length : Int) := by clear w1 w2 w3 w4 w5; omega
    have q4 : b < ((rd_L3 T ((i + 1 : Nat) : Int)).length : Int) := by rw [h7]; clear w1 w2 w3 w4 w5; omega
    have q5 : c < ((rd_L2 (rd_L3 T ((i + 1 : Nat) : Int)) b).length : Int) := by rw [h77]; clear w1 w2 w3 w4 w5; omega
    have q6 : (0 : Int) ≤ (i : Int) := by clear w1 w2 w3 w4 w5; omega
    have q7 : (i : Int) < (ns.length : Int) := by clear w1 w2 w3 w4 w5; omega
    simp only [spec_l07Rest.l0, bestS]
    rw [w1, if_pos q1, if_pos q2, if_pos q3, if_pos hb.1, if_pos q4, if_pos h0, if_pos q5, hvc.1]
    by_cases c1 : v c < 0
    · rw [if_pos c1, if_pos c1]
      simp only [spec_l07Rest.j1]
      rw [if_pos trivial, w2]
      exact st best
    · rw [if_neg c1, if_neg c1, if_pos q6, if_pos q7, w3, w4, w5]
      have w6 : wrap64 (b + v c) = b + v c := by have := hvc.2; clear w1 w2 w3 w4 w5 st; unfold wrap64; omega
      simp only [spec_l07Rest.j1]
      by_cases c2 : a + 2 * b + c < rd ns (i : Int)
      · rw [decide_eq_true c2, if_pos rfl, if_pos c2, w2]
        exact st best
      · rw [decide_eq_false c2, if_neg (by decide), if_neg c2, w6, w2]
        by_cases c3 : best < 0
        · rw [if_pos c3, if_pos c3]
          exact st _
        · rw [if_neg c3, if_neg c3]
          by_cases c4 : b + v c < best
          · rw [if_pos c4, if_pos c4]
            exact st _
          · rw [if_neg c4, if_neg c4]
            exact st _

end Go.Proofs.Ytegjebiocgbmpaa.P
