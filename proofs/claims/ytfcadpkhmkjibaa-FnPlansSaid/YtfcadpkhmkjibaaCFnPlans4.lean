/- What the claim of FnPlans bears, part 4: functions of the program as plain Lean functions, with proofs that the code comes to their answers, and lemmas on them. -/
import Derived.Test.YtfcadpkhmkjibaaCFnPlans0
import Derived.Test.YtfcadpkhmkjibaaCFnPlans3
import Derived.Test.YtfcadpkhmkjibaaCFnPlans2
/- Changing a cutter as late as may be: never more changes, never more wear. -/
namespace Go.Proofs.Ytfcadpkhmkjibaa.P
open Go.RowKit Go.Proofs.Ytfcadpkhmkjibaa.P Go.Proofs.YtfcadpkhmkjibaaW.PrintWords Go.Proofs.YtfcadpkhmkjibaaW.PrintLast Go.Proofs.YtfcadpkhmkjibaaW.PrintMore
set_option linter.unusedVariables false
set_option linter.unusedSimpArgs false
def segS (s : Nat → Int) (r : Nat) : Nat → Int
  | 0 => 0
  | d + 1 => segS s r d + s (r + d)
def nxt (N : Nat) : List Nat → Nat
  | [] => N
  | r :: _ => r
def grB (s : Nat → Int) (L : Int) (N : Nat) : List Nat → Int → List Bool
  | [], _ => []
  | r :: t, w => decide (w + segS s r (nxt N t - r) > L) :: grB s L N t ((if decide (w + segS s r (nxt N t - r) > L) = true then 0 else w) + segS s r (nxt N t - r))
def okB (s : Nat → Int) (L : Int) (N : Nat) : List Nat → List Bool → Int → Prop
  | [], [], _ => True
  | r :: t, b :: bs, w => (if b = true then 0 else w) + segS s r (nxt N t - r) ≤ L ∧ okB s L N t bs ((if b = true then 0 else w) + segS s r (nxt N t - r))
  | _, _, _ => False
def cntB : List Bool → Nat
  | [] => 0
  | b :: bs => (if b = true then 1 else 0) + cntB bs
theorem segS_nn (s : Nat → Int) (N : Nat) (hs : ∀ n, n < N → 0 ≤ s n) (r : Nat) : ∀ d : Nat, r + d ≤ N → 0 ≤ segS s r d
  | 0, _ => by simp [segS]
  | d + 1, h => by
    have h1 := segS_nn s N hs r d (by omega)
    have h2 := hs (r + d) (by omega)
    simp only [segS]
    omega
theorem segS_mono (s : Nat → Int) (N : Nat) (hs : ∀ n, n < N → 0 ≤ s n) (r e : Nat) : ∀ d : Nat, r + e + d ≤ N → segS s r e ≤ segS s r (e + d)
  | 0, _ => Int.le_refl _
  | d + 1, h => by
    have h1 := segS_mono s N hs r e d (by omega)
    have h2 := hs (r + (e + d)) (by omega)
    rw [show e + (d + 1) = (e + d) + 1 by omega]
    simp only [segS]
    omega
theorem nxt_le {N : Nat} : ∀ {t : List Nat}, (∀ r ∈ t, r ≤ N) → nxt N t ≤ N
  | [], _ => Nat.le_refl _
  | r :: t, h => h r (by simp)
theorem exch (s : Nat → Int) (L : Int) (N : Nat) (hs : ∀ n, n < N → 0 ≤ s n) : ∀ (todo : List Nat) (A : List Bool) (wG wA : Int) (cG cA : Nat), (∀ r ∈ todo, r ≤ N) → 0 ≤ wG → 0 ≤ wA → (cG < cA ∨ (cG = cA ∧ wG ≤ wA)) → okB s L N todo A wA → okB s L N todo (grB s L N todo wG) wG ∧ cG + cntB (grB s L N todo wG) ≤ cA + cntB A
  | [], [], wG, wA, cG, cA, _, _, _, hc, _ => ⟨trivial, by simp only [grB, cntB]; omega⟩
  | [], _ :: _, wG, wA, cG, cA, _, _, _, _, ho => by simp [okB] at ho
  | _ :: _, [], wG, wA, cG, cA, _, _, _, _, ho => by simp [okB] at ho
  | r :: t, b :: bs, wG, wA, cG, cA, hr, hG, hA, hc, ho => by
    have hr2 : ∀ q ∈ t, q ≤ N := fun q hq => hr q (by simp [hq])
    have hn := nxt_le hr2
    have hrN := hr r (by simp)
    have hd : 0 ≤ segS s r (nxt N t - r) := segS_nn s N hs r _ (by omega)
    generalize hD : segS s r (nxt N t - r) = D at hd
    simp only [okB, hD] at ho
    obtain ⟨ho1, ho2⟩ := ho
    simp only [grB, okB, cntB, hD]
    by_cases g : wG + D > L
    · have eg : decide (wG + D > L) = true := decide_eq_true g
      rw [eg, if_pos rfl, if_pos rfl]
      cases b with
      | true =>
        rw [if_pos rfl] at ho1 ho2
        rw [if_pos rfl]
        have := exch s L N hs t bs (0 + D) (0 + D) (cG + 1) (cA + 1) hr2 (by omega) (by omega) (by omega) ho2
        exact ⟨⟨ho1, this.1⟩, by omega⟩
      | false =>
        rw [if_neg (by simp)] at ho1 ho2
        rw [if_neg (by simp)]
        have := exch s L N hs t bs (0 + D) (wA + D) (cG + 1) cA hr2 (by omega) (by omega) (by omega) ho2
        exact ⟨⟨by omega, this.1⟩, by omega⟩
    · have eg : decide (wG + D > L) = false := decide_eq_false g
      rw [eg, if_neg (by simp), if_neg (by simp)]
      cases b with
      | true =>
        rw [if_pos rfl] at ho1 ho2
        rw [if_pos rfl]
        have := exch s L N hs t bs (wG + D) (0 + D) cG (cA + 1) hr2 (by omega) (by omega) (by omega) ho2
        exact ⟨⟨by omega, this.1⟩, by omega⟩
      | false =>
        rw [if_neg (by simp)] at ho1 ho2
        rw [if_neg (by simp)]
        have := exch s L N hs t bs (wG + D) (wA + D) cG cA hr2 (by omega) (by omega) (by omega) ho2
        exact ⟨⟨by omega, this.1⟩, by omega⟩
def wOf (χ : Nat → Bool) (s : Nat → Int) : Nat → Int
  | 0 => 0
  | n + 1 => if χ (n + 1) = true then 0 else wOf χ s n + s n
def wIn (χ : Nat → Bool) (s : Nat → Int) : Nat → Int
  | 0 => 0
  | n + 1 => wOf χ s n + s n
theorem wOf_eq (χ : Nat → Bool) (s : Nat → Int) (n : Nat) : wOf χ s n = if χ n = true then 0 else wIn χ s n := by
  cases n with
  | zero => simp [wOf, wIn]
  | succ n => rfl
theorem wOf_seg (χ : Nat → Bool) (s : Nat → Int) (r : Nat) : ∀ d : Nat, (∀ j, r < j → j ≤ r + d → χ j = false) → wOf χ s (r + d) = wOf χ s r + segS s r d
  | 0, _ => by simp [segS]
  | d + 1, h => by
    have h1 := wOf_seg χ s r d (fun j h1 h2 => h j h1 (by omega))
    have h2 := h (r + d + 1) (by omega) (by omega)
    rw [show r + (d + 1) = (r + d) + 1 by omega]
    simp only [wOf, segS]
    rw [h2, if_neg (by simp), h1]
    omega
theorem wIn_seg (χ : Nat → Bool) (s : Nat → Int) (r d : Nat) (h : ∀ j, r < j → j ≤ r + d → χ j = false) : wIn χ s (r + d + 1) = wOf χ s r + segS s r (d + 1) := by
  simp only [wIn, segS]
  rw [wOf_seg χ s r d h]
  omega
theorem wOf_agree (χ ψ : Nat → Bool) (s : Nat → Int) : ∀ n : Nat, (∀ j, j ≤ n → χ j = ψ j) → wOf χ s n = wOf ψ s n
  | 0, _ => rfl
  | n + 1, h => by
    simp only [wOf]
    rw [h (n + 1) (by omega), wOf_agree χ ψ s n (fun j hj => h j (by omega))]
theorem wIn_agree (χ ψ : Nat → Bool) (s : Nat → Int) (n : Nat) (h : ∀ j, j < n → χ j = ψ j) : wIn χ s n = wIn ψ s n := by
  cases n with
  | zero => rfl
  | succ n =>
    simp only [wIn]
    rw [wOf_agree χ ψ s n (fun j hj => h j (by omega))]
theorem part_ok (χ : Nat → Bool) (s : Nat → Int) (L : Int) (N : Nat) (hs : ∀ n, n < N → 0 ≤ s n) (r nx : Nat) (hr : r < nx) (hn : nx ≤ N) (hx : ∀ j, r < j → j < nx → χ j = false) : (∀ n, r ≤ n → n < nx → wOf χ s n + s n ≤ L) ↔ wOf χ s r + segS s r (nx - r) ≤ L := by
  obtain ⟨d, rfl⟩ : ∃ d, nx = r + d + 1 := ⟨nx - r - 1, by omega⟩
  rw [show r + d + 1 - r = d + 1 by omega]
  constructor
  · intro h
    have := h (r + d) (by omega) (by omega)
    rw [wOf_seg χ s r d (fun j h1 h2 => hx j h1 (by omega))] at this
    simp only [segS]
    omega
  · intro h n h1 h2
    obtain ⟨e, rfl⟩ : ∃ e, n = r + e := ⟨n - r, by omega⟩
    have hm := segS_mono s N hs r (e + 1) (d - e) (by omega)
    rw [show e + 1 + (d - e) = d + 1 by omega] at hm
    rw [wOf_seg χ s r e (fun j h1 h2 => hx j h1 (by omega))]
    simp only [segS] at hm h ⊢
    omega
theorem ok_link (χ : Nat → Bool) (s : Nat → Int) (L : Int) (N : Nat) (hs : ∀ n, n < N → 0 ≤ s n) : ∀ (t : List Nat) (r : Nat), (r :: t).Pairwise (· < ·) → (∀ q ∈ r :: t, q < N) → (∀ n, r < n → χ n = true → n ∈ t) → ((∀ n, r ≤ n → n < N → wOf χ s n + s n ≤ L) ↔ okB s L N (r :: t) ((r :: t).map χ) (wIn χ s r))
  | [], r, hp, hN, hx => by
    have h1 := part_ok χ s L N hs r N (hN r (by simp)) (Nat.le_refl _) (fun j hj _ => by
      rw [Bool.eq_false_iff]
      intro hh
      have := hx j hj hh
      simp at this)
    simp only [List.map, okB, nxt, and_true]
    rw [h1, wOf_eq]
  | q :: t, r, hp, hN, hx => by
    have hp1 := List.pairwise_cons.mp hp
    have hrq : r < q := hp1.1 q (by simp)
    have hqN : q < N := hN q (by simp)
    have hno : ∀ j, r < j → j < q → χ j = false := fun j h1 h2 => by
      rw [Bool.eq_false_iff]
      intro hh
      rcases List.mem_cons.mp (hx j h1 hh) with e | e
      · omega
      · have := (List.pairwise_cons.mp hp1.2).1 j e
        omega
    have h1 := part_ok χ s L N hs r q hrq (by omega) hno
    have h2 := ok_link χ s L N hs t q hp1.2 (fun z hz => hN z (by simp [List.mem_cons.mp hz])) (fun n h3 h4 => by
      rcases List.mem_cons.mp (hx n (by omega) h4) with e | e
      · omega
      · exact e)
    obtain ⟨d, rfl⟩ : ∃ d, q = r + d + 1 := ⟨q - r - 1, by omega⟩
    have h3 := wIn_seg χ s r d (fun j h4 h5 => hno j h4 (by omega))
    have h4 : r + d + 1 - r = d + 1 := by omega
    rw [h4] at h1
    rw [h3] at h2
    rw [List.map_cons]
    simp only [okB, nxt]
    rw [h4]
    simp only [wOf_eq χ s r] at h1 h2
    rw [← h2, ← h1]
    constructor
    · intro h
      exact ⟨fun n a b => h n a (by omega), fun n a b => h n (by omega) b⟩
    · intro h n a b
      by_cases c : n < r + d + 1
      · exact h.1 n a c
      · exact h.2 n (by omega) b
def allOk (χ : Nat → Bool) (s : Nat → Int) (L : Int) (N : Nat) : Prop := ∀ n, n < N → wOf χ s n + s n ≤ L
theorem exchange (χ ψ : Nat → Bool) (s : Nat → Int) (L : Int) (N : Nat) (hs : ∀ n, n < N → 0 ≤ s n) (R : List Nat) (hp : R.Pairwise (· < ·)) (hN : ∀ q ∈ R, q < N) (hχ : ∀ n, χ n = true → n ∈ R) (hψ : ∀ n, ψ n = true → n ∈ R) (hg : R.map ψ = grB s L N R (segS s 0 (nxt N R))) (h : allOk χ s L N) : allOk ψ s L N ∧ cntB (R.map ψ) ≤ cntB (R.map χ) := by
  have hno : ∀ φ : Nat → Bool, (∀ n, φ n = true → n ∈ R) → ∀ j, j < nxt N R → φ j = false := fun φ hφ j hj => by
    rw [Bool.eq_false_iff]
    intro hh
    have h1 := hφ j hh
    cases R with
    | nil => simp at h1
    | cons r t =>
      simp only [nxt] at hj
      rcases List.mem_cons.mp h1 with e | e
      · omega
      · have := (List.pairwise_cons.mp hp).1 j e
        omega
  have hwi : ∀ φ : Nat → Bool, (∀ n, φ n = true → n ∈ R) → wIn φ s (nxt N R) = segS s 0 (nxt N R) := fun φ hφ => by
    generalize hm : nxt N R = m
    cases m with
    | zero => rfl
    | succ m =>
      have := wIn_seg φ s 0 m (fun j h1 h2 => hno φ hφ j (by omega))
      rw [Nat.zero_add] at this
      rw [this]
      simp [wOf]
  have hag : ∀ n, n < nxt N R → wOf χ s n = wOf ψ s n := fun n hn => wOf_agree χ ψ s n (fun j hj => by rw [hno χ hχ j (by omega), hno ψ hψ j (by omega)])
  cases R with
  | nil =>
    refine ⟨fun n hn => ?_, Nat.le_refl _⟩
    rw [← hag n hn]
    exact h n hn
  | cons r t =>
    have hsup : ∀ φ : Nat → Bool, (∀ n, φ n = true → n ∈ r :: t) → ∀ n, r < n → φ n = true → n ∈ t := fun φ hφ n h1 h2 => by
      rcases List.mem_cons.mp (hφ n h2) with e | e
      · omega
      · exact e
    have l1 := (ok_link χ s L N hs t r hp hN (hsup χ hχ)).mp (fun n _ hn => h n hn)
    have l2 := ok_link ψ s L N hs t r hp hN (hsup ψ hψ)
    have e1 := hwi χ hχ
    have e2 := hwi ψ hψ
    simp only [nxt] at e1 e2 hg hag
    rw [e1] at l1
    rw [e2, hg] at l2
    have hrN : r < N := hN r (by simp)
    have hw : 0 ≤ segS s 0 r := segS_nn s N hs 0 r (by omega)
    have hx := exch s L N hs (r :: t) ((r :: t).map χ) (segS s 0 r) (segS s 0 r) 0 0 (fun q hq => Nat.le_of_lt (hN q hq)) hw hw (Or.inr ⟨rfl, Int.le_refl _⟩) l1
    refine ⟨fun n hn => ?_, by rw [hg]; omega⟩
    by_cases c : n < r
    · rw [← hag n c]
      exact h n hn
    · exact l2.mpr hx.1 n (by omega) hn

end Go.Proofs.Ytfcadpkhmkjibaa.P
/- The plan for stops, cutter for cutter: each is changed as late as may be. -/
namespace Go.Proofs.Ytfcadpkhmkjibaa.P
open Go.RowKit Go.Proofs.Ytfcadpkhmkjibaa.P Go.Proofs.YtfcadpkhmkjibaaW.PrintWords Go.Proofs.YtfcadpkhmkjibaaW.PrintLast Go.Proofs.YtfcadpkhmkjibaaW.PrintMore
set_option linter.unusedVariables false
set_option linter.unusedSimpArgs false
def chF (p : List S49) (c : Nat) : Nat → Bool := fun n => chg p (c : Int) (n : Int)
theorem wearP_wOf (cs : List S34) (fc : List Int) (p : List S49) (c : Nat) : ∀ n : Nat, wearP cs fc p c n = wOf (chF p c) (wearStep cs fc c) n
  | 0 => rfl
  | n + 1 => by
    simp only [wearP, wOf, chF]
    rw [wearP_wOf cs fc p c n]
    rfl
theorem failC_none (cs : List S34) (fc : List Int) (p : List S49) (n : Nat) : ∀ d i : Nat, failC cs fc p n d i = none ↔ ∀ c, i ≤ c → c < i + d → wearP cs fc p c n + wearStep cs fc c n ≤ (rd_T34 cs (c : Int)).f1
  | 0, i => by simp only [failC, true_iff]; intro c h1 h2; omega
  | d + 1, i => by
    simp only [failC]
    by_cases h : wearP cs fc p i n + wearStep cs fc i n > (rd_T34 cs (i : Int)).f1
    · rw [if_pos h]
      constructor
      · intro e; cases e
      · intro e
        have := e i (Nat.le_refl _) (by omega)
        omega
    · rw [if_neg h, failC_none cs fc p n d (i + 1)]
      constructor
      · intro e c h1 h2
        by_cases q : c = i
        · rw [q]; omega
        · exact e c (by omega) (by omega)
      · intro e c h1 h2
        exact e c (by omega) (by omega)
theorem failN_none (cs : List S34) (fc : List Int) (p : List S49) : ∀ d i : Nat, failN cs fc p d i = none ↔ ∀ n, i ≤ n → n < i + d → ∀ c, c < cs.length → wearP cs fc p c n + wearStep cs fc c n ≤ (rd_T34 cs (c : Int)).f1
  | 0, i => by simp only [failN, true_iff]; intro n h1 h2; omega
  | d + 1, i => by
    simp only [failN]
    cases h : failC cs fc p i cs.length 0 with
    | some c =>
      constructor
      · intro e; cases e
      · intro e
        have := (failC_none cs fc p i cs.length 0).mpr (fun c _ hc => e i (Nat.le_refl _) (by omega) c (by omega))
        rw [h] at this
        cases this
    | none =>
      have h2 := (failC_none cs fc p i cs.length 0).mp h
      dsimp only
      rw [failN_none cs fc p d (i + 1)]
      constructor
      · intro e n h3 h4 c hc
        by_cases q : n = i
        · rw [q]; exact h2 c (by omega) (by omega)
        · exact e n (by omega) (by omega) c hc
      · intro e n h3 h4 c hc
        exact e n (by omega) (by omega) c hc
def limC (cs : List S34) (c : Nat) : Int := (rd_T34 cs (c : Int)).f1
theorem failP_none (cs : List S34) (fc : List Int) (p : List S49) : (failP cs fc p).isNone = true ↔ ∀ c, c < cs.length → allOk (chF p c) (wearStep cs fc c) (limC cs c) fc.length := by
  rw [Option.isNone_iff_eq_none]
  unfold failP
  rw [failN_none]
  constructor
  · intro h c hc n hn
    have := h n (by omega) (by omega) c hc
    rw [wearP_wOf] at this
    exact this
  · intro h n _ hn c hc
    have := h c hc n (by omega)
    rw [wearP_wOf]
    exact this
theorem segS_head (s : Nat → Int) (r : Nat) : ∀ d : Nat, segS s r (d + 1) = s r + segS s (r + 1) d
  | 0 => by simp [segS]
  | d + 1 => by
    have := segS_head s r d
    simp only [segS] at this ⊢
    rw [show r + 1 + d = r + (d + 1) by omega]
    omega
theorem reachGo_ge (ax lim : Int) (fc : List Int) : ∀ (d i : Nat) (s : Int), i ≤ reachGo ax lim fc d i s
  | 0, i, s => Nat.le_refl _
  | d + 1, i, s => by
    simp only [reachGo]
    split
    · exact Nat.le_refl _
    · have := reachGo_ge ax lim fc d (i + 1) (wrap64 (s + wrap64 (ax * rd fc (i : Int))))
      omega
theorem reachGo_lt {cs : List S34} {fc st : List Int} {x y : Int} (hh : hdOk cs fc st x y = true) (c : Nat) (hc : c < cs.length) (nx : Nat) (hnx : nx ≤ fc.length) : ∀ (d i : Nat) (w : Int), i + d = fc.length → i < nx → 0 ≤ w → w ≤ 10000 * (i : Int) →
    (reachGo (rd_T34 cs (c : Int)).f0 (limC cs c) fc d i w < nx ↔ w + segS (wearStep cs fc c) i (nx - i) > limC cs c)
  | 0, i, w, hi, hn, _, _ => by omega
  | d + 1, i, w, hi, hn, h0, h1 => by
    have hin := hdOk_in hh
    have hst := step_in hh c i hc (by omega)
    have hs : ∀ n, n < fc.length → 0 ≤ wearStep cs fc c n := fun n hn => (step_in hh c n hc hn).1
    have e1 : wrap64 ((rd_T34 cs (c : Int)).f0 * rd fc (i : Int)) = wearStep cs fc c i := by
      unfold wearStep at hst ⊢
      rw [w64 _ (by omega) (by omega)]
    have e2 : wrap64 (w + wearStep cs fc c i) = w + wearStep cs fc c i := w64 _ (by omega) (by omega)
    simp only [reachGo]
    rw [e1, e2, show nx - i = (nx - (i + 1)) + 1 by omega, segS_head]
    have hnn := segS_nn (wearStep cs fc c) fc.length hs (i + 1) (nx - (i + 1)) (by omega)
    by_cases g : w + wearStep cs fc c i > limC cs c
    · rw [if_pos g]
      constructor
      · intro _; omega
      · intro _; exact hn
    · rw [if_neg g]
      by_cases q : i + 1 < nx
      · rw [reachGo_lt hh c hc nx hnx d (i + 1) _ (by omega) q (by omega) (by omega)]
        omega
      · have := reachGo_ge (rd_T34 cs (c : Int)).f0 (limC cs c) fc d (i + 1) (w + wearStep cs fc c i)
        rw [show nx - (i + 1) = 0 by omega]
        simp only [segS]
        omega
theorem reachOf_lt {cs : List S34} {fc st : List Int} {x y : Int} (hh : hdOk cs fc st x y = true) (p : List S49) (c r nx : Nat) (hc : c < cs.length) (hr : r < nx) (hnx : nx ≤ fc.length) :
    (reachOf cs fc c r (wearP cs fc p c r) < nx ↔ wearP cs fc p c r + segS (wearStep cs fc c) r (nx - r) > limC cs c) := by
  have hw := wearP_in p hh c hc r (by omega)
  exact reachGo_lt hh c hc nx hnx (fc.length - r) r _ (by omega) hr hw.1 hw.2
theorem mem_pickGo (cs : List S34) (fc : List Int) (p : List S49) (r nx : Nat) (v : Nat) : ∀ d c : Nat, (v : Int) ∈ pickGo cs fc p r nx d c ↔ c ≤ v ∧ v < c + d ∧ reachOf cs fc v r (wearP cs fc p v r) < nx
  | 0, c => by simp only [pickGo, List.not_mem_nil, false_iff]; omega
  | d + 1, c => by
    simp only [pickGo]
    split
    · rename_i h
      rw [List.mem_cons, mem_pickGo cs fc p r nx v d (c + 1)]
      constructor
      · rintro (e | ⟨a, b, e⟩)
        · have : v = c := by omega
          subst this
          exact ⟨Nat.le_refl _, by omega, h⟩
        · exact ⟨by omega, by omega, e⟩
      · rintro ⟨a, b, e⟩
        by_cases q : v = c
        · left; omega
        · right; exact ⟨by omega, by omega, e⟩
    · rename_i h
      rw [mem_pickGo cs fc p r nx v d (c + 1)]
      constructor
      · rintro ⟨a, b, e⟩
        exact ⟨by omega, by omega, e⟩
      · rintro ⟨a, b, e⟩
        refine ⟨?_, by omega, e⟩
        by_cases q : v = c
        · subst q; exact absurd e h
        · omega
theorem mem_pick (cs : List S34) (fc : List Int) (p : List S49) (r nx v : Nat) (hv : v < cs.length) : (v : Int) ∈ pick cs fc p r nx ↔ reachOf cs fc v r (wearP cs fc p v r) < nx := by
  unfold pick
  rw [mem_pickGo]
  constructor
  · rintro ⟨_, _, e⟩; exact e
  · intro e; exact ⟨by omega, by omega, e⟩
theorem chg_step (cs : List S34) (fc : List Int) (r nx : Nat) (p : List S49) (c : Int) (n : Nat) : chg (forStep cs fc r nx p) c (n : Int) = (chg p c (n : Int) || (decide (r = n) && decide (c ∈ pick cs fc p r nx))) := by
  unfold forStep
  split
  · unfold chg
    rw [List.any_append]
    simp only [List.any_cons, List.any_nil, Bool.or_false]
    congr 2
    by_cases q : r = n
    · rw [decide_eq_true q, decide_eq_true (by omega)]
    · rw [decide_eq_false q, decide_eq_false (by omega)]
  · rename_i h
    have : pick cs fc p r nx = [] := by
      cases hp : pick cs fc p r nx with
      | nil => rfl
      | cons a b => rw [hp] at h; simp at h
    rw [this]
    simp
def forL (cs : List S34) (fc : List Int) : List Nat → List S49 → List S49
  | [], p => p
  | r :: t, p => forL cs fc t (forStep cs fc r (nxt fc.length t) p)
theorem forGo_L (cs : List S34) (fc s : List Int) : ∀ (d i : Nat) (p : List S49), i + d = s.length → forGo cs fc s d i p = forL cs fc ((s.drop i).map Int.toNat) p
  | 0, i, p, h => by
    rw [List.drop_of_length_le (by omega)]
    rfl
  | d + 1, i, p, h => by
    rw [drop_at s i (by omega)]
    simp only [forGo, List.map_cons, forL]
    rw [forGo_L cs fc s d (i + 1) _ (by omega)]
    congr 2
    unfold nextAt
    by_cases q : i + 1 < s.length
    · rw [if_pos (by omega), drop_at s (i + 1) q]
      rfl
    · rw [if_neg (by omega), List.drop_of_length_le (by omega)]
      rfl
theorem forP_L (cs : List S34) (fc s : List Int) : forP cs fc s = forL cs fc (s.map Int.toNat) [] := by
  unfold forP
  rw [forGo_L cs fc s s.length 0 [] (by omega)]
  rfl
theorem chg_none {p : List S49} {c : Int} {n : Nat} (h : ∀ t ∈ p, t.f0 ≠ (n : Int)) : chg p c (n : Int) = false := by
  unfold chg
  rw [List.any_eq_false]
  intro t ht
  simp [h t ht]
theorem forL_in {cs : List S34} {fc : List Int} : ∀ (todo : List Nat) (p : List S49), todo.Pairwise (· < ·) → (∀ t ∈ p, ∀ q ∈ todo, t.f0 < (q : Int)) → p.Pairwise (fun a b => a.f0 < b.f0) →
    (forL cs fc todo p).Pairwise (fun a b => a.f0 < b.f0) ∧ ∀ t ∈ forL cs fc todo p, t ∈ p ∨ ∃ q ∈ todo, t.f0 = (q : Int)
  | [], p, _, _, hp => ⟨hp, fun t ht => Or.inl ht⟩
  | r :: t, p, hs, hb, hp => by
    have hs2 := List.pairwise_cons.mp hs
    have hst : ∀ z ∈ forStep cs fc r (nxt fc.length t) p, z ∈ p ∨ z.f0 = (r : Int) := by
      intro z hz
      unfold forStep at hz
      split at hz
      · rcases List.mem_append.mp hz with h | h
        · exact Or.inl h
        · rw [List.mem_singleton.mp h]; exact Or.inr rfl
      · exact Or.inl hz
    have hpw : (forStep cs fc r (nxt fc.length t) p).Pairwise (fun a b => a.f0 < b.f0) := by
      unfold forStep
      split
      · rw [List.pairwise_append]
        refine ⟨hp, by simp, ?_⟩
        intro a ha b hb2
        rw [List.mem_singleton.mp hb2]
        exact hb a ha r (by simp)
      · exact hp
    obtain ⟨h1, h2⟩ := forL_in t (forStep cs fc r (nxt fc.length t) p) hs2.2 (fun z hz q hq => by
      rcases hst z hz with h | h
      · exact hb z h q (by simp [hq])
      · have := hs2.1 q hq
        omega) hpw
    refine ⟨h1, ?_⟩
    intro z hz
    rcases h2 z hz with h | ⟨q, hq, e⟩
    · rcases hst z h with h3 | h3
      · exact Or.inl h3
      · exact Or.inr ⟨r, by simp, h3⟩
    · exact Or.inr ⟨q, by simp [hq], e⟩
theorem forL_chg {cs : List S34} {fc st : List Int} {x y : Int} (hh : hdOk cs fc st x y = true) (c : Nat) (hc : c < cs.length) : ∀ (todo : List Nat) (p : List S49), todo.Pairwise (· < ·) → (∀ q ∈ todo, q < fc.length) → (∀ t ∈ p, ∀ q ∈ todo, t.f0 < (q : Int)) →
    (∀ n : Nat, n ∉ todo → chF (forL cs fc todo p) c n = chF p c n) ∧ todo.map (chF (forL cs fc todo p) c) = grB (wearStep cs fc c) (limC cs c) fc.length todo (wIn (chF p c) (wearStep cs fc c) (nxt fc.length todo))
  | [], p, _, _, _ => ⟨fun n _ => rfl, rfl⟩
  | r :: t, p, hs, hN, hb => by
    have hs2 := List.pairwise_cons.mp hs
    have hrN := hN r (by simp)
    have hnx : nxt fc.length t ≤ fc.length := nxt_le (fun q hq => Nat.le_of_lt (hN q (by simp [hq])))
    have hrn : r < nxt fc.length t := by
      cases t with
      | nil => exact hrN
      | cons q t => exact hs2.1 q (by simp)
    have hst : ∀ z ∈ forStep cs fc r (nxt fc.length t) p, z ∈ p ∨ z.f0 = (r : Int) := by
      intro z hz
      unfold forStep at hz
      split at hz
      · rcases List.mem_append.mp hz with h | h
        · exact Or.inl h
        · rw [List.mem_singleton.mp h]; exact Or.inr rfl
      · exact Or.inl hz
    obtain ⟨h1, h2⟩ := forL_chg hh c hc t (forStep cs fc r (nxt fc.length t) p) hs2.2 (fun q hq => hN q (by simp [hq])) (fun z hz q hq => by
      rcases hst z hz with h | h
      · exact hb z h q (by simp [hq])
      · have := hs2.1 q hq
        omega)
    have hpr : ∀ n : Nat, r ≤ n → (n = r ∨ n ∈ t ∨ True) → (n = r → chF p c n = false) := fun n _ _ e => by
      rw [e]
      exact chg_none (fun z hz => by have := hb z hz r (by simp); omega)
    have hpr0 : chF p c r = false := chg_none (fun z hz => by have := hb z hz r (by simp); omega)
    have hchs : ∀ n : Nat, chF (forStep cs fc r (nxt fc.length t) p) c n = (chF p c n || (decide (r = n) && decide ((c : Int) ∈ pick cs fc p r (nxt fc.length t)))) := fun n => chg_step cs fc r _ p (c : Int) n
    have hwp : wearP cs fc p c r = wIn (chF p c) (wearStep cs fc c) r := by
      rw [wearP_wOf, wOf_eq, hpr0, if_neg (by simp)]
    have hdec : decide ((c : Int) ∈ pick cs fc p r (nxt fc.length t)) = decide (wIn (chF p c) (wearStep cs fc c) r + segS (wearStep cs fc c) r (nxt fc.length t - r) > limC cs c) := by
      rw [← hwp]
      exact decide_eq_decide.mpr ((mem_pick cs fc p r _ c hc).trans (reachOf_lt hh p c r _ hc hrn hnx))
    have hr' : chF (forStep cs fc r (nxt fc.length t) p) c r = decide (wIn (chF p c) (wearStep cs fc c) r + segS (wearStep cs fc c) r (nxt fc.length t - r) > limC cs c) := by
      rw [hchs r, hpr0, decide_eq_true rfl, hdec]
      simp
    have hrt : r ∉ t := fun h => by have := hs2.1 r h; omega
    have hfin : chF (forL cs fc t (forStep cs fc r (nxt fc.length t) p)) c r = decide (wIn (chF p c) (wearStep cs fc c) r + segS (wearStep cs fc c) r (nxt fc.length t - r) > limC cs c) := by rw [h1 r hrt, hr']
    simp only [forL]
    constructor
    · intro n hn
      rw [h1 n (fun h => hn (by simp [h])), hchs n, decide_eq_false (fun e => hn (by simp [e]))]
      simp
    · have hw : wIn (chF (forStep cs fc r (nxt fc.length t) p) c) (wearStep cs fc c) (nxt fc.length t) = (if decide (wIn (chF p c) (wearStep cs fc c) r + segS (wearStep cs fc c) r (nxt fc.length t - r) > limC cs c) = true then 0 else wIn (chF p c) (wearStep cs fc c) r) + segS (wearStep cs fc c) r (nxt fc.length t - r) := by
        rw [← hr']
        have hno : ∀ j, r < j → chF (forStep cs fc r (nxt fc.length t) p) c j = false := fun j a => by
          rw [hchs j, decide_eq_false (by omega), Bool.false_and, Bool.or_false]
          refine chg_none (fun z hz => ?_)
          have := hb z hz r (by simp)
          omega
        have hag : wIn (chF (forStep cs fc r (nxt fc.length t) p) c) (wearStep cs fc c) r = wIn (chF p c) (wearStep cs fc c) r := wIn_agree _ _ _ r (fun j hj => by
          rw [hchs j, decide_eq_false (by omega), Bool.false_and, Bool.or_false])
        rw [← hag]
        generalize chF (forStep cs fc r (nxt fc.length t) p) c = φ at hno
        obtain ⟨d, hd⟩ : ∃ d, nxt fc.length t = r + d + 1 := ⟨nxt fc.length t - r - 1, by omega⟩
        rw [hd, wIn_seg φ (wearStep cs fc c) r d (fun j a _ => hno j a), wOf_eq, show r + d + 1 - r = d + 1 by omega]
      rw [List.map_cons, hfin, h2, hw]
      rfl

end Go.Proofs.Ytfcadpkhmkjibaa.P
/- The plan for the stops of a plan that is enough: enough, and no cutter is changed more often. -/
namespace Go.Proofs.Ytfcadpkhmkjibaa.P
open Go.RowKit Go.Proofs.Ytfcadpkhmkjibaa.P Go.Proofs.YtfcadpkhmkjibaaW.PrintWords Go.Proofs.YtfcadpkhmkjibaaW.PrintLast Go.Proofs.YtfcadpkhmkjibaaW.PrintMore
set_option linter.unusedVariables false
set_option linter.unusedSimpArgs false
theorem pw_of_rd : ∀ (l : List Int), (∀ j : Nat, j + 1 < l.length → rd l (j : Int) < rd l ((j + 1 : Nat) : Int)) → l.Pairwise (· < ·)
  | [], _ => List.Pairwise.nil
  | [a], _ => List.pairwise_singleton _ _
  | a :: b :: l, h => by
    have h1 : (b :: l).Pairwise (· < ·) := pw_of_rd (b :: l) (fun j hj => by
      have := h (j + 1) (by simp at hj ⊢; omega)
      rw [rd_at _ _ (by simp at hj ⊢; omega), rd_at _ _ (by simp at hj ⊢; omega)] at this
      rw [rd_at _ _ (by simp at hj ⊢; omega), rd_at _ _ (by simp at hj ⊢; omega)]
      simpa using this)
    have h2 : a < b := by
      have := h 0 (by simp)
      rw [rd_at _ _ (by simp), rd_at _ _ (by simp)] at this
      simpa using this
    refine List.pairwise_cons.mpr ⟨?_, h1⟩
    intro x hx
    rcases List.mem_cons.mp hx with e | e
    · rw [e]; exact h2
    · have := (List.pairwise_cons.mp h1).1 x e
      omega
theorem rises_pw {l : List Int} {lo hi : Int} (h : rises l lo hi = true) : l.Pairwise (· < ·) := by
  unfold rises at h
  rw [upTo_iff] at h
  refine pw_of_rd l (fun j hj => ?_)
  have := h (j + 1) (by omega) (by omega)
  simp only [riseOk, Bool.and_eq_true, Bool.or_eq_true, decide_eq_true_eq] at this
  rcases this.2 with e | e
  · omega
  · rw [show j + 1 - 1 = j by omega] at e
    exact e
theorem rises_of {l : List Int} {lo hi : Int} (hp : l.Pairwise (· < ·)) (h : ∀ v ∈ l, lo ≤ v ∧ v ≤ hi) : rises l lo hi = true := by
  unfold rises
  rw [upTo_iff]
  intro j _ hj
  have hj2 : j < l.length := by omega
  simp only [riseOk, Bool.and_eq_true, Bool.or_eq_true, decide_eq_true_eq]
  constructor
  · rw [rd_at l j hj2]
    exact h _ (List.getElem_mem hj2)
  · by_cases e : j = 0
    · exact Or.inl e
    · right
      rw [rd_at l j hj2, rd_at l (j - 1) (by omega)]
      exact List.pairwise_iff_getElem.mp hp (j - 1) j (by omega) hj2 (by omega)
def cntC (c : Nat) : List S49 → Nat
  | [] => 0
  | t :: p => (if (c : Int) ∈ t.f1 then 1 else 0) + cntC c p
theorem cntB_false : ∀ (R : List Nat) (φ : Nat → Bool), (∀ n ∈ R, φ n = false) → cntB (R.map φ) = 0
  | [], _, _ => rfl
  | r :: R, φ, h => by
    simp only [List.map_cons, cntB]
    rw [h r (by simp), cntB_false R φ (fun n hn => h n (by simp [hn]))]
    rfl
theorem cntB_or : ∀ (R : List Nat) (f g : Nat → Bool), (∀ n ∈ R, f n = true → g n = false) → cntB (R.map fun n => f n || g n) = cntB (R.map f) + cntB (R.map g)
  | [], _, _, _ => rfl
  | r :: R, f, g, h => by
    have h1 := h r (by simp)
    simp only [List.map_cons, cntB]
    rw [cntB_or R f g (fun n hn => h n (by simp [hn]))]
    cases hf : f r with
    | true => rw [h1 hf]; simp; omega
    | false => simp; omega
theorem cntB_one : ∀ (R : List Nat) (q : Nat) (b : Bool), R.Pairwise (· < ·) → q ∈ R → cntB (R.map fun n => decide (q = n) && b) = if b = true then 1 else 0
  | [], q, b, _, h => by simp at h
  | r :: R, q, b, hp, h => by
    have hp2 := List.pairwise_cons.mp hp
    simp only [List.map_cons, cntB]
    by_cases e : q = r
    · subst e
      rw [cntB_false R _ (fun n hn => by have := hp2.1 n hn; rw [decide_eq_false (by omega)]; rfl), decide_eq_true rfl]
      simp
    · rw [cntB_one R q b hp2.2 (by rcases List.mem_cons.mp h with h | h; exact absurd h e; exact h), decide_eq_false e]
      simp
theorem cnt_bits (c : Nat) (R : List Nat) (hR : R.Pairwise (· < ·)) : ∀ p : List S49, p.Pairwise (fun a b => a.f0 < b.f0) → (∀ t ∈ p, ∃ q ∈ R, t.f0 = (q : Int)) → cntC c p = cntB (R.map (chF p c))
  | [], _, _ => by
    rw [cntB_false R _ (fun n _ => by simp [chF, chg])]
    rfl
  | t :: p, hp, h => by
    have hp2 := List.pairwise_cons.mp hp
    obtain ⟨q, hq, e⟩ := h t (by simp)
    have h1 : ∀ n, chF (t :: p) c n = ((decide (q = n) && decide ((c : Int) ∈ t.f1)) || chF p c n) := by
      intro n
      unfold chF chg
      rw [List.any_cons, e]
      congr 2
      by_cases z : q = n
      · rw [decide_eq_true z, decide_eq_true (by omega)]
      · rw [decide_eq_false z, decide_eq_false (by omega)]
    have h2 : (chF (t :: p) c) = fun n => (decide (q = n) && decide ((c : Int) ∈ t.f1)) || chF p c n := funext h1
    rw [h2, cntB_or R _ _ ?_, cntB_one R q _ hR hq, ← cnt_bits c R hR p hp2.2 (fun z hz => h z (by simp [hz]))]
    · simp only [cntC, decide_eq_true_eq]
    · intro n _ hn
      simp only [Bool.and_eq_true, decide_eq_true_eq] at hn
      rw [← hn.1]
      refine chg_none (fun z hz => ?_)
      have := hp2.1 z hz
      omega
theorem for_best {cs : List S34} {fc st : List Int} {x y : Int} (hh : hdOk cs fc st x y = true) (p : List S49) (s : List Int) (hs : s.Pairwise (· < ·)) (hN : ∀ v ∈ s, 0 ≤ v ∧ v < (fc.length : Int)) (hp : p.Pairwise (fun a b => a.f0 < b.f0)) (hr : ∀ t ∈ p, t.f0 ∈ s) (hf : (failP cs fc p).isNone = true) :
    (failP cs fc (forP cs fc s)).isNone = true ∧ ∀ c, c < cs.length → cntC c (forP cs fc s) ≤ cntC c p := by
  have hR : (s.map Int.toNat).Pairwise (· < ·) := by
    rw [List.pairwise_map]
    refine List.Pairwise.imp_of_mem ?_ hs
    intro a b ha hb hab
    have := hN a ha
    have := hN b hb
    omega
  have hRN : ∀ q ∈ s.map Int.toNat, q < fc.length := by
    intro q hq
    obtain ⟨v, hv, rfl⟩ := List.mem_map.mp hq
    have := hN v hv
    omega
  have hrp : ∀ t ∈ p, ∃ q ∈ s.map Int.toNat, t.f0 = (q : Int) := fun t ht => by
    have h1 := hr t ht
    have h2 := hN _ h1
    exact ⟨t.f0.toNat, List.mem_map.mpr ⟨_, h1, rfl⟩, by omega⟩
  obtain ⟨hG1, hG2⟩ := forL_in (cs := cs) (fc := fc) (s.map Int.toNat) [] hR (by simp) List.Pairwise.nil
  have hrG : ∀ t ∈ forL cs fc (s.map Int.toNat) [], ∃ q ∈ s.map Int.toNat, t.f0 = (q : Int) := fun t ht => by
    rcases hG2 t ht with h | h
    · simp at h
    · exact h
  have hsup : ∀ (g : List S49), (∀ t ∈ g, ∃ q ∈ s.map Int.toNat, t.f0 = (q : Int)) → ∀ c n, chF g c n = true → n ∈ s.map Int.toNat := fun g hg c n hn => by
    unfold chF chg at hn
    rw [List.any_eq_true] at hn
    obtain ⟨t, ht, h1⟩ := hn
    simp only [Bool.and_eq_true, decide_eq_true_eq] at h1
    obtain ⟨q, hq, e⟩ := hg t ht
    have : n = q := by omega
    rw [this]
    exact hq
  rw [failP_none] at hf
  rw [forP_L]
  have key := fun (c : Nat) (hc : c < cs.length) => exchange (chF p c) (chF (forL cs fc (s.map Int.toNat) []) c) (wearStep cs fc c) (limC cs c) fc.length (fun n hn => (step_in hh c n hc hn).1) (s.map Int.toNat) hR hRN (hsup p hrp c) (hsup _ hrG c) (by
    rw [(forL_chg hh c hc (s.map Int.toNat) [] hR hRN (by simp)).2]
    congr 1
    generalize nxt fc.length (s.map Int.toNat) = m
    cases m with
    | zero => rfl
    | succ m =>
      have := wIn_seg (chF [] c) (wearStep cs fc c) 0 m (fun j _ _ => by simp [chF, chg])
      rw [Nat.zero_add] at this
      rw [this]
      simp [wOf]) (hf c hc)
  constructor
  · rw [failP_none]
    exact fun c hc => (key c hc).1
  · intro c hc
    rw [cnt_bits c _ hR _ hG1 hrG, cnt_bits c _ hR p hp hrp]
    exact (key c hc).2

end Go.Proofs.Ytfcadpkhmkjibaa.P
/- The plan for stops is a plan, and it costs no more than a plan with those stops that is enough. -/
namespace Go.Proofs.Ytfcadpkhmkjibaa.P
open Go.RowKit Go.Proofs.Ytfcadpkhmkjibaa.P Go.Proofs.YtfcadpkhmkjibaaW.PrintWords Go.Proofs.YtfcadpkhmkjibaaW.PrintLast Go.Proofs.YtfcadpkhmkjibaaW.PrintMore
set_option linter.unusedVariables false
set_option linter.unusedSimpArgs false
def sumN : Nat → (Nat → Nat) → Nat
  | 0, _ => 0
  | n + 1, f => sumN n f + f n
theorem sumN_add (f g : Nat → Nat) : ∀ n : Nat, sumN n (fun c => f c + g c) = sumN n f + sumN n g
  | 0 => rfl
  | n + 1 => by simp only [sumN]; rw [sumN_add f g n]; omega
theorem sumN_le (f g : Nat → Nat) : ∀ n : Nat, (∀ c, c < n → f c ≤ g c) → sumN n f ≤ sumN n g
  | 0, _ => Nat.le_refl _
  | n + 1, h => by
    have h1 := sumN_le f g n (fun c hc => h c (by omega))
    have h2 := h n (by omega)
    simp only [sumN]
    omega
theorem sumN_eq (f g : Nat → Nat) (n : Nat) (h : ∀ c, c < n → f c = g c) : sumN n f = sumN n g :=
  Nat.le_antisymm (sumN_le f g n (fun c hc => Nat.le_of_eq (h c hc))) (sumN_le g f n (fun c hc => Nat.le_of_eq (h c hc).symm))
theorem sumN_zero : ∀ n : Nat, sumN n (fun _ => 0) = 0
  | 0 => rfl
  | n + 1 => by simp only [sumN]; rw [sumN_zero n]
theorem sumN_one (v : Int) : ∀ n : Nat, 0 ≤ v → sumN n (fun c => if (c : Int) = v then 1 else 0) = if v < (n : Int) then 1 else 0
  | 0, h => by rw [if_neg (by omega)]; rfl
  | n + 1, h => by
    simp only [sumN]
    rw [sumN_one v n h]
    by_cases a : v < (n : Int)
    · rw [if_pos a, if_neg (by omega), if_pos (by omega)]
    · by_cases b : (n : Int) = v
      · rw [if_neg a, if_pos b, if_pos (by omega)]
      · rw [if_neg a, if_neg b, if_neg (by omega)]
theorem len_sumN (n : Nat) : ∀ l : List Int, l.Pairwise (· < ·) → (∀ v ∈ l, 0 ≤ v ∧ v < (n : Int)) → l.length = sumN n (fun c => if (c : Int) ∈ l then 1 else 0)
  | [], _, _ => by
    rw [sumN_eq _ (fun _ => 0) n (fun c _ => by simp), sumN_zero]
    rfl
  | v :: l, hp, h => by
    have hp2 := List.pairwise_cons.mp hp
    have hv := h v (by simp)
    rw [sumN_eq _ (fun c => (if (c : Int) = v then 1 else 0) + (if (c : Int) ∈ l then 1 else 0)) n (fun c hc => ?_), sumN_add, sumN_one v n hv.1, if_pos hv.2, ← len_sumN n l hp2.2 (fun z hz => h z (by simp [hz])), List.length_cons]
    · omega
    · by_cases a : (c : Int) = v
      · have b : ¬ (c : Int) ∈ l := fun hb => by have := hp2.1 _ hb; omega
        rw [if_pos (by simp [a]), if_pos a, if_neg b]
      · rw [if_neg a]
        by_cases b : (c : Int) ∈ l
        · rw [if_pos (by simp [b]), if_pos b]
        · rw [if_neg (by simp [a, b]), if_neg b]
structure PlanF (n : Nat) (st : List Int) (p : List S49) : Prop where
  up : p.Pairwise (fun a b => a.f0 < b.f0)
  at_ : ∀ t ∈ p, t.f0 ∈ st
  ne : ∀ t ∈ p, t.f1.length ≠ 0
  ch : ∀ t ∈ p, t.f1.Pairwise (· < ·) ∧ ∀ v ∈ t.f1, 0 ≤ v ∧ v < (n : Int)
theorem rings_rd (p : List S49) (j : Nat) (hj : j < p.length) : rd (ringsP p) (j : Int) = (rd_T49 p (j : Int)).f0 := by
  rw [rd_at _ j (by rw [ringsP_len]; exact hj), rdStop_at p j hj]
  simp [ringsP]
theorem planF_of {n : Nat} (hn : n ≤ 1000) {st : List Int} {p : List S49} (h : planOk n st p = true) : PlanF n st p := by
  unfold planOk at h
  rw [upTo_iff] at h
  have hw : wrap64 ((n : Int) - 1) = (n : Int) - 1 := w64 _ (by omega) (by omega)
  have h2 : ∀ j : Nat, j < p.length → (rd_T49 p (j : Int)).f0 ∈ st ∧ (rd_T49 p (j : Int)).f1.length ≠ 0 ∧ rises (rd_T49 p (j : Int)).f1 0 ((n : Int) - 1) = true ∧ (j = 0 ∨ (rd_T49 p ((j - 1 : Nat) : Int)).f0 < (rd_T49 p (j : Int)).f0) := by
    intro j hj
    have := h j (by omega) (by omega)
    unfold stopOk at this
    rw [hw] at this
    simp only [Bool.and_eq_true, Bool.or_eq_true, decide_eq_true_eq, Bool.not_eq_true', decide_eq_false_iff_not] at this
    exact ⟨this.1, by have := this.2.1; omega, this.2.2.1, this.2.2.2⟩
  have hmem : ∀ (Q : S49 → Prop), (∀ j : Nat, j < p.length → Q (rd_T49 p (j : Int))) → ∀ t ∈ p, Q t := by
    intro Q hQ t ht
    obtain ⟨j, hj, rfl⟩ := List.getElem_of_mem ht
    have := hQ j hj
    rw [rdStop_at p j hj] at this
    exact this
  refine ⟨?_, hmem _ (fun j hj => (h2 j hj).1), hmem (fun t => t.f1.length ≠ 0) (fun j hj => (h2 j hj).2.1), hmem (fun t => t.f1.Pairwise (· < ·) ∧ ∀ v ∈ t.f1, 0 ≤ v ∧ v < (n : Int)) (fun j hj => ⟨rises_pw (h2 j hj).2.2.1, fun v hv => by have := rises_mem (h2 j hj).2.2.1 v hv; omega⟩)⟩
  have := pw_of_rd (ringsP p) (fun j hj => by
    rw [ringsP_len] at hj
    rw [rings_rd p j (by omega), rings_rd p (j + 1) hj]
    rcases (h2 (j + 1) hj).2.2.2 with e | e
    · omega
    · rw [show j + 1 - 1 = j by omega] at e
      exact e)
  unfold ringsP at this
  rwa [List.pairwise_map] at this
theorem planF_ok {n : Nat} (hn : n ≤ 1000) {st : List Int} {p : List S49} (h : PlanF n st p) : planOk n st p = true := by
  unfold planOk
  rw [upTo_iff]
  intro j _ hj
  have hj2 : j < p.length := by omega
  have hm := List.getElem_mem hj2
  have h1 := h.at_ _ hm
  have h2 := h.ne _ hm
  have h3 := h.ch _ hm
  have hw : wrap64 ((n : Int) - 1) = (n : Int) - 1 := w64 _ (by omega) (by omega)
  unfold stopOk
  rw [hw, rdStop_at p j hj2, rises_of h3.1 (fun v hv => by have := h3.2 v hv; omega)]
  simp only [Bool.and_eq_true, Bool.or_eq_true, decide_eq_true_eq, Bool.not_eq_true', decide_eq_false_iff_not]
  refine ⟨h1, by omega, trivial, ?_⟩
  by_cases e : j = 0
  · exact Or.inl e
  · right
    rw [rdStop_at p (j - 1) (by omega)]
    exact List.pairwise_iff_getElem.mp h.up (j - 1) j (by omega) hj2 (by omega)
theorem pickGo_pw (cs : List S34) (fc : List Int) (p : List S49) (r nx : Nat) : ∀ d c : Nat, (pickGo cs fc p r nx d c).Pairwise (· < ·)
  | 0, _ => List.Pairwise.nil
  | d + 1, c => by
    have h1 := pickGo_pw cs fc p r nx d (c + 1)
    have h2 := (pickGo_in cs fc p r nx d (c + 1)).2
    simp only [pickGo]
    split
    · refine List.pairwise_cons.mpr ⟨fun v hv => ?_, h1⟩
      have := h2 v hv
      omega
    · exact h1
theorem forL_pick {cs : List S34} {fc : List Int} (Q : S49 → Prop) (hQ : ∀ p r nx, (pick cs fc p r nx).length ≠ 0 → Q ⟨(r : Int), pick cs fc p r nx⟩) : ∀ (todo : List Nat) (p : List S49), (∀ t ∈ p, Q t) → ∀ t ∈ forL cs fc todo p, Q t
  | [], p, h => h
  | r :: t, p, h => by
    refine forL_pick Q hQ t _ (fun z hz => ?_)
    unfold forStep at hz
    split at hz
    · rename_i hl
      rcases List.mem_append.mp hz with e | e
      · exact h z e
      · rw [List.mem_singleton.mp e]
        exact hQ p r _ (by omega)
    · exact h z hz
theorem forP_F {cs : List S34} {fc st : List Int} (s : List Int) (hs : s.Pairwise (· < ·)) (hN : ∀ v ∈ s, 0 ≤ v ∧ v < (fc.length : Int)) (hst : ∀ v ∈ s, v ∈ st) : PlanF cs.length st (forP cs fc s) := by
  have hR : (s.map Int.toNat).Pairwise (· < ·) := by
    rw [List.pairwise_map]
    refine List.Pairwise.imp_of_mem ?_ hs
    intro a b ha hb hab
    have := hN a ha
    have := hN b hb
    omega
  obtain ⟨h1, h2⟩ := forL_in (cs := cs) (fc := fc) (s.map Int.toNat) [] hR (by simp) List.Pairwise.nil
  rw [forP_L]
  refine ⟨h1, ?_, forL_pick (fun t => t.f1.length ≠ 0) (fun p r nx h => h) _ [] (by simp), forL_pick (fun t => t.f1.Pairwise (· < ·) ∧ ∀ v ∈ t.f1, 0 ≤ v ∧ v < (cs.length : Int)) (fun p r nx _ => ⟨pickGo_pw cs fc p r nx cs.length 0, (pickP_in cs fc p r nx).2⟩) _ [] (by simp)⟩
  intro t ht
  rcases h2 t ht with h | ⟨q, hq, e⟩
  · simp at h
  · obtain ⟨v, hv, rfl⟩ := List.mem_map.mp hq
    have := hN v hv
    rw [e, show ((v.toNat : Nat) : Int) = v by omega]
    exact hst v hv
theorem f1_short {n : Nat} {st : List Int} {p : List S49} (h : PlanF n st p) : ∀ t ∈ p, t.f1.length ≤ n := by
  intro t ht
  have := h.ch t ht
  rw [len_sumN n t.f1 this.1 this.2]
  refine Nat.le_trans (sumN_le _ (fun _ => 1) n (fun c _ => by split <;> omega)) ?_
  have : ∀ m : Nat, sumN m (fun _ => 1) = m := fun m => by induction m with | zero => rfl | succ m ih => simp only [sumN]; omega
  rw [this]
  exact Nat.le_refl _
theorem cost_sum (x y : Int) {n : Nat} {st : List Int} : ∀ p : List S49, PlanF n st p → (p.map fun t => x + y * (t.f1.length : Int)).sum = x * (p.length : Int) + y * ((sumN n (fun c => cntC c p) : Nat) : Int)
  | [], _ => by
    have : sumN n (fun c => cntC c ([] : List S49)) = 0 := sumN_zero n
    rw [this]
    simp
  | t :: p, h => by
    have h2 : PlanF n st p := ⟨(List.pairwise_cons.mp h.up).2, fun z hz => h.at_ z (by simp [hz]), fun z hz => h.ne z (by simp [hz]), fun z hz => h.ch z (by simp [hz])⟩
    have h3 := h.ch t (by simp)
    have e1 : sumN n (fun c => cntC c (t :: p)) = t.f1.length + sumN n (fun c => cntC c p) := by
      rw [len_sumN n t.f1 h3.1 h3.2]
      exact sumN_add _ _ n
    rw [List.map_cons, List.sum_cons, cost_sum x y p h2, e1, List.length_cons]
    push_cast
    rw [Int.mul_add, Int.mul_add]
    omega
theorem cost_le {x y : Int} (hx : 0 ≤ x ∧ x ≤ 10000) (hy : 0 ≤ y ∧ y ≤ 10000) {n : Nat} (hn : n ≤ 5) {st : List Int} {g p : List S49} (hg : PlanF n st g) (hp : PlanF n st p) (hl : p.length ≤ 1000) (hle : g.length ≤ p.length) (hc : ∀ c, c < n → cntC c g ≤ cntC c p) : costGo x y g 0 ≤ costGo x y p 0 := by
  obtain ⟨e1, _, _⟩ := costGo_in x y hx hy g 0 (fun t ht => by have := f1_short hg t ht; omega) (by omega) (by omega) (by omega)
  obtain ⟨e2, _, _⟩ := costGo_in x y hx hy p 0 (fun t ht => by have := f1_short hp t ht; omega) (by omega) (by omega) (by omega)
  rw [e1, e2, cost_sum x y g hg, cost_sum x y p hp]
  have h1 : x * (g.length : Int) ≤ x * (p.length : Int) := Int.mul_le_mul_of_nonneg_left (by omega) hx.1
  have h2 := sumN_le (fun c => cntC c g) (fun c => cntC c p) n hc
  have h3 : y * ((sumN n (fun c => cntC c g) : Nat) : Int) ≤ y * ((sumN n (fun c => cntC c p) : Nat) : Int) := Int.mul_le_mul_of_nonneg_left (by omega) hy.1
  omega

end Go.Proofs.Ytfcadpkhmkjibaa.P
/- A valid head with a plan of it; what is told of them. -/
namespace Go.Proofs.Ytfcadpkhmkjibaa.P
open Go.RowKit Go.Proofs.Ytfcadpkhmkjibaa.P Go.Proofs.YtfcadpkhmkjibaaW.PrintWords Go.Proofs.YtfcadpkhmkjibaaW.PrintLast Go.Proofs.YtfcadpkhmkjibaaW.PrintMore
set_option linter.unusedVariables false
set_option linter.unusedSimpArgs false
def planFine (cs : List S34) (fc st : List Int) (x y : Int) (p : List S49) : Bool := hdOk cs fc st x y && planOk cs.length st p
theorem planFine_in {cs : List S34} {fc st : List Int} {x y : Int} {p : List S49} (hp : shortS p) (h : planFine cs fc st x y p = true) : hdOk cs fc st x y = true ∧ planIn cs.length p := by
  unfold planFine at h
  rw [Bool.and_eq_true] at h
  have := hdOk_in h.1
  exact ⟨h.1, planOk_in (by omega) hp h.2⟩
def enoughP (cs : List S34) (fc st : List Int) (x y : Int) (p : List S49) : Bool := planFine cs fc st x y p && (failP cs fc p).isNone

end Go.Proofs.Ytfcadpkhmkjibaa.P
/- Whether a plan is enough, as the program answers. -/
namespace Go.Proofs.Ytfcadpkhmkjibaa.P
open Go.RowKit Go.Proofs.Ytfcadpkhmkjibaa.P Go.Proofs.YtfcadpkhmkjibaaW.PrintWords Go.Proofs.YtfcadpkhmkjibaaW.PrintLast Go.Proofs.YtfcadpkhmkjibaaW.PrintMore
set_option linter.unusedVariables false
set_option linter.unusedSimpArgs false
theorem implIsEnough_is (wearK : Nat) (hW : wearOk wearK) (k : Nat) (cs : List S34) (fc st : List Int) (x y : Int) (p : List S49) (hc : cs.length ≤ 1048576) (hb : fc.length ≤ 1048576) (hs : st.length ≤ 1048576) (hp : shortS p) (hk : wearK + 10000000 ≤ k) : impl_IsEnough.f k cs fc st x y p = some (enoughP cs fc st x y p) := by
  have := hp.1
  unfold impl_IsEnough.f enoughP
  rw [implIsPlan_is k cs fc st x y p hc hb hs hp (by omega), bind_some_]
  by_cases h : planFine cs fc st x y p = true
  · obtain ⟨h1, h2⟩ := planFine_in hp h
    rw [h, implFail_is wearK hW k cs fc st x y h1 p h2 (by omega), bind_some_]
    unfold planFine at h
    rw [if_pos h]
    cases failP cs fc p with
    | none => simp
    | some q =>
      obtain ⟨c, n⟩ := q
      simp
  · have h4 : planFine cs fc st x y p = false := by simpa using h
    rw [h4]
    unfold planFine at h
    rw [if_neg h]
    rfl

end Go.Proofs.Ytfcadpkhmkjibaa.P
/- A number is in a list, as another law asks it. -/
namespace Go.Proofs.Ytfcadpkhmkjibaa.P
open Go.RowKit Go.Proofs.Ytfcadpkhmkjibaa.P Go.Proofs.YtfcadpkhmkjibaaW.PrintWords Go.Proofs.YtfcadpkhmkjibaaW.PrintLast Go.Proofs.YtfcadpkhmkjibaaW.PrintMore
set_option linter.unusedVariables false
set_option linter.unusedSimpArgs false
theorem r8Has_loop (l : List Int) (n : Int) (hb : l.length ≤ 9223372036854775806) : ∀ (d k i : Nat), i + d = l.length → d < k → laws_r8Has.l0 k l n i = some (decide (n ∈ l.drop i)) := by
  intro d
  induction d with
  | zero =>
    intro k i hi hk
    obtain ⟨k, rfl⟩ : ∃ m, k = m + 1 := ⟨k - 1, by omega⟩
    simp only [laws_r8Has.l0]
    rw [if_neg (by omega), List.drop_of_length_le (by omega)]
    simp
  | succ d ih =>
    intro k i hi hk
    obtain ⟨k, rfl⟩ : ∃ m, k = m + 1 := ⟨k - 1, by omega⟩
    simp only [laws_r8Has.l0]
    rw [if_pos (by omega), if_pos (by omega), w64s i (by omega), ih k (i + 1) (by omega) (by omega), drop_at l i (by omega)]
    by_cases h : rd l i = n
    · rw [if_pos h]; simp [h]
    · rw [if_neg h]
      have h2 : ¬ n = rd l i := fun e => h e.symm
      simp [h2]
theorem r8Has_is (k : Nat) (l : List Int) (n : Int) (hb : l.length ≤ 9223372036854775806) (hk : l.length < k) : laws_r8Has.f k l n = some (decide (n ∈ l)) := by
  unfold laws_r8Has.f
  have := r8Has_loop l n hb l.length k 0 (by omega) hk
  simpa using this

end Go.Proofs.Ytfcadpkhmkjibaa.P
/- How often a plan changes a cutter, as the laws count; the plan for the stops of a drawn plan. -/
namespace Go.Proofs.Ytfcadpkhmkjibaa.P
open Go.RowKit Go.Proofs.Ytfcadpkhmkjibaa.P Go.Proofs.YtfcadpkhmkjibaaW.PrintWords Go.Proofs.YtfcadpkhmkjibaaW.PrintLast Go.Proofs.YtfcadpkhmkjibaaW.PrintMore
set_option linter.unusedVariables false
set_option linter.unusedSimpArgs false
theorem r8Count_l0 (p : List S49) (hp : shortS p) (c : Nat) : ∀ (d k i m : Nat), i + d = p.length → d + 1048580 < k → m ≤ i → laws_r8Count.l0 k p c m i = some (((m + cntC c (p.drop i) : Nat)) : Int) := by
  intro d
  have hpl := hp.1
  induction d with
  | zero =>
    intro k i m hi hk hm
    obtain ⟨k, rfl⟩ : ∃ m, k = m + 1 := ⟨k - 1, by omega⟩
    simp only [laws_r8Count.l0]
    rw [if_neg (by omega), List.drop_of_length_le (by omega)]
    rfl
  | succ d ih =>
    intro k i m hi hk hm
    obtain ⟨k, rfl⟩ : ∃ m, k = m + 1 := ⟨k - 1, by omega⟩
    have hs := hp.2 p[i] (List.getElem_mem (by omega))
    simp only [laws_r8Count.l0]
    rw [if_pos (by omega), if_pos (by omega), rdStop_at p i (by omega), r8Has_is k _ _ (by omega) (by omega), bind_some_, w64s i (by omega), w64s m (by omega), List.drop_eq_getElem_cons (show i < p.length by omega)]
    simp only [cntC, decide_eq_true_eq]
    by_cases q : (c : Int) ∈ p[i].f1
    · rw [if_pos q, if_pos q, ih k (i + 1) (m + 1) (by omega) (by omega) (by omega), Nat.add_assoc]
    · rw [if_neg q, if_neg q, ih k (i + 1) m (by omega) (by omega) (by omega), Nat.zero_add]
theorem r8Count_is (k : Nat) (p : List S49) (hp : shortS p) (c : Nat) (hk : p.length + 1048580 < k) : laws_r8Count.f k p c = some ((cntC c p : Nat) : Int) := by
  unfold laws_r8Count.f
  have := r8Count_l0 p hp c p.length k 0 0 (by omega) hk (by omega)
  simpa using this
theorem rings_ok {cs : List S34} {fc st : List Int} (hz : rz st 0 fc.length) {p : List S49} (h : PlanF cs.length st p) : (ringsP p).Pairwise (· < ·) ∧ (∀ v ∈ ringsP p, 0 ≤ v ∧ v < (fc.length : Int)) ∧ ∀ v ∈ ringsP p, v ∈ st := by
  have h3 : ∀ v ∈ ringsP p, v ∈ st := by
    intro v hv
    obtain ⟨t, ht, rfl⟩ := List.mem_map.mp hv
    exact h.at_ t ht
  refine ⟨?_, ?_, h3⟩
  · unfold ringsP
    rw [List.pairwise_map]
    exact h.up
  · intro v hv
    obtain ⟨j, hj, e⟩ := List.getElem_of_mem (h3 v hv)
    have := hz.1 j hj
    rw [rd_at st j hj, e] at this
    exact this
theorem planForP_is {cs : List S34} {fc st : List Int} {x y : Int} (hh : hdOk cs fc st x y = true) (s : List Int) (hs : s.Pairwise (· < ·)) (hN : ∀ v ∈ s, 0 ≤ v ∧ v < (fc.length : Int)) (hst : ∀ v ∈ s, v ∈ st) : planForP cs fc st x y s = if (failP cs fc (forP cs fc s)).isNone = true then (forP cs fc s, true) else ([], false) := by
  have hin := hdOk_in hh
  have h1 : rises s 0 (wrap64 ((fc.length : Int) - 1)) = true := by
    rw [w64 _ (by omega) (by omega)]
    exact rises_of hs (fun v hv => by have := hN v hv; omega)
  have h2 : planForAny s st = false := by
    unfold planForAny
    rw [List.any_eq_false]
    intro v hv
    simp [hst v hv]
  unfold planForP
  rw [hh, h1, h2, if_pos (by rfl)]
theorem costP_is {cs : List S34} {fc st : List Int} {x y : Int} (hh : hdOk cs fc st x y = true) {p : List S49} (h : planOk cs.length st p = true) : costP cs fc st x y p = (costGo x y p 0, true) := by
  unfold costP
  rw [hh, h, if_pos (by rfl)]
theorem enoughP_is {cs : List S34} {fc st : List Int} {x y : Int} (hh : hdOk cs fc st x y = true) {p : List S49} (h : planOk cs.length st p = true) : enoughP cs fc st x y p = (failP cs fc p).isNone := by
  unfold enoughP planFine
  rw [hh, h]
  rfl
theorem nodup_len : ∀ (l : List Int) (lo : Int) (n : Nat), l.Pairwise (· < ·) → (∀ v ∈ l, lo ≤ v ∧ v < lo + (n : Int)) → l.length ≤ n
  | [], _, _, _, _ => Nat.zero_le _
  | v :: l, lo, n, hp, h => by
    have hp2 := List.pairwise_cons.mp hp
    have hv := h v (by simp)
    have := nodup_len l (v + 1) ((lo + (n : Int) - v - 1).toNat) hp2.2 (fun z hz => by
      have := hp2.1 z hz
      have := h z (by simp [hz])
      omega)
    rw [List.length_cons]
    omega
theorem pl_small {cs : List S34} {fc st : List Int} {x y : Int} (hh : hdOk cs fc st x y = true) (hz : rz st 0 fc.length) {p : List S49} (h : PlanF cs.length st p) : p.length ≤ 60 := by
  have hin := hdOk_in hh
  obtain ⟨h1, h2, _⟩ := rings_ok hz h
  have := nodup_len (ringsP p) 0 fc.length h1 (fun v hv => by have := h2 v hv; omega)
  rw [ringsP_len] at this
  omega

end Go.Proofs.Ytfcadpkhmkjibaa.P
