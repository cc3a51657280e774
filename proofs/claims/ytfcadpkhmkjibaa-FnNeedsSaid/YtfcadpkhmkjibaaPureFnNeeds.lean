/- Each interval of a cutter wears it beyond its limit, no two of them have a safe ring in common, and for one cutter alone there is a sufficient plan with as many changes; no condition. -/
import Derived.Test.YtfcadpkhmkjibaaCFnNeeds3
import Derived.Test.YtfcadpkhmkjibaaCFnNeeds2
import Derived.Test.YtfcadpkhmkjibaaCFnNeeds0
namespace Go.Proofs.Ytfcadpkhmkjibaa.Pure
open Go.RowKit Go.Proofs.Ytfcadpkhmkjibaa.P Go.Proofs.YtfcadpkhmkjibaaW.PrintWords Go.Proofs.YtfcadpkhmkjibaaW.PrintLast Go.Proofs.YtfcadpkhmkjibaaW.PrintMore
set_option linter.unusedVariables false
set_option linter.unusedSimpArgs false
theorem segS_up (s : Nat → Int) (N : Nat) (hs : ∀ n, n < N → 0 ≤ s n ∧ s n ≤ 10000) (r : Nat) : ∀ d : Nat, r + d ≤ N → 0 ≤ segS s r d ∧ segS s r d ≤ 10000 * (d : Int)
  | 0, _ => by simp [segS]
  | d + 1, h => by
    have h1 := segS_up s N hs r d (by omega)
    have h2 := hs (r + d) (by omega)
    simp only [segS]
    omega
theorem needs_l1 {cs : List S34} {fc st : List Int} {x y : Int} (hh : hdOk cs fc st x y = true) (c : Nat) (hc : c < cs.length) (list : List (List Int)) (i b T : Nat) (hi : i < list.length) (hrow : rd_L3 list (i : Int) = [(b : Int), (T : Int)]) (hT : reachOf cs fc c b 0 = T) (hTN : T < fc.length) (hbt : b < T) (hl : list.length ≤ 1000) (K : Nat) (hK : 100000 ≤ K) :
    ∀ (d n : Nat) (seen : List Int), n + d = T + 1 → b ≤ n → (∀ v ∈ seen, v ≤ (b : Int) ∨ ((b : Int) < v ∧ v < (n : Int) ∧ v ∈ st)) → seen.length ≤ 100 * i + (n - b) →
    ∃ seen2 : List Int, (∀ v ∈ seen2, v ≤ (b : Int) ∨ ((b : Int) < v ∧ v ≤ (T : Int) ∧ v ∈ st)) ∧ seen2.length ≤ 100 * (i + 1) ∧
      laws_FnNeeds.l1 (K + 2 * d + 1) (c : Int) list seen (i : Int) (segS (wearStep cs fc c) b (n - b)) (n : Int) cs fc st x y = laws_FnNeeds.l0 K (c : Int) list seen2 ((i + 1 : Nat) : Int) cs fc st x y := by
  have hin := hdOk_in hh
  have hs : ∀ n, n < fc.length → 0 ≤ wearStep cs fc c n ∧ wearStep cs fc c n ≤ 10000 := fun n hn => step_in hh c n hc hn
  have e0 : rd [(b : Int), (T : Int)] 0 = (b : Int) := rfl
  have e1 : rd [(b : Int), (T : Int)] 1 = (T : Int) := rfl
  have e2 : ([(b : Int), (T : Int)]).length = 2 := rfl
  intro d
  induction d with
  | zero =>
    intro n seen hn hb hv hlen
    refine ⟨seen, fun v hm => ?_, by omega, ?_⟩
    · rcases hv v hm with e | ⟨e1, e2, e3⟩
      · exact Or.inl e
      · exact Or.inr ⟨e1, by omega, e3⟩
    · have hreach := reachGo_lt hh c hc (T + 1) (by omega) (fc.length - b) b 0 (by omega) (by omega) (Int.le_refl _) (by omega)
      have hr2 : reachGo (rd_T34 cs (c : Int)).f0 (limC cs c) fc (fc.length - b) b 0 = T := hT
      rw [hr2, Int.zero_add] at hreach
      have hover := hreach.mp (by omega)
      have hnb : n - b = T + 1 - b := by omega
      have hlim : limC cs c = (rd_T34 cs (c : Int)).f1 := rfl
      rw [hlim] at hover
      simp only [laws_FnNeeds.l1]
      rw [if_pos (by omega), if_pos (by omega), hrow, e0, e1, e2, if_pos (by omega), if_neg (by omega), if_pos (by omega), implRangeOf_is K cs fc st x y (c : Int) (b : Int) (by omega) (by omega) (by omega) (by omega), bind_some_]
      have hrange : rangeP cs fc st x y (c : Int) (b : Int) = (wrap64 ((T : Int) - (b : Int)), true) := by
        unfold rangeP
        rw [if_pos ⟨hh, by omega, by omega⟩, Int.toNat_natCast, Int.toNat_natCast, hT]
      rw [hrange]
      dsimp only
      rw [if_pos rfl, if_pos (by omega), if_pos (by omega), hnb, if_neg (by omega), if_pos rfl, w64s i (by omega)]
  | succ d ih =>
    intro n seen hn hb hv hlen
    have hsg := segS_up (wearStep cs fc c) fc.length hs b (n - b) (by omega)
    have hst := hs n (by omega)
    have hsn := segS_up (wearStep cs fc c) fc.length hs b (n + 1 - b) (by omega)
    have ew : wrap64 (segS (wearStep cs fc c) b (n - b) + wrap64 ((rd_T34 cs (c : Int)).f0 * rd fc (n : Int))) = segS (wearStep cs fc c) b (n + 1 - b) := by
      have h1 : (rd_T34 cs (c : Int)).f0 * rd fc (n : Int) = wearStep cs fc c n := rfl
      rw [h1, w64 (wearStep cs fc c n) (by omega) (by omega), show n + 1 - b = (n - b) + 1 by omega]
      simp only [segS]
      rw [show b + (n - b) = n by omega]
      exact w64 _ (by omega) (by omega)
    have hkk : K + 2 * (d + 1) + 1 = (K + 2 * d + 1) + 1 + 1 := by omega
    have hr8 := r8Has_is (K + 2 * d + 1 + 1) st (n : Int) (by omega) (by omega)
    have hr9 := r8Has_is (K + 2 * d + 1) seen (n : Int) (by omega) (by omega)
    rw [hkk]
    simp only [laws_FnNeeds.l1]
    rw [if_pos (by omega), if_pos (by omega), hrow, e0, e1, e2, if_pos (by omega), if_pos (by omega), if_pos (by omega), if_pos (by omega), if_pos (by omega), if_pos (by omega), if_pos (by omega), ew, hr8, bind_some_]
    simp only [laws_FnNeeds.j4]
    have hplain := ih (n + 1) seen (by omega) (by omega) (fun v hm => by
      rcases hv v hm with e | ⟨a1, a2, a3⟩
      · exact Or.inl e
      · exact Or.inr ⟨a1, by omega, a3⟩) (by omega)
    have w1 : wrap64 ((n : Int) + 1) = ((n + 1 : Nat) : Int) := w64s n (by omega)
    rw [w1]
    clear ew w1
    by_cases c1 : (n : Int) > (b : Int)
    · rw [if_pos c1]
      by_cases c2 : (n : Int) ∈ st
      · rw [decide_eq_true c2, if_pos rfl, hr9, bind_some_]
        have c3 : ¬ (n : Int) ∈ seen := fun hm => by
          rcases hv _ hm with e | ⟨_, a2, _⟩ <;> omega
        rw [decide_eq_false c3, if_neg (by simp), if_pos (by omega)]
        refine ih (n + 1) (seen ++ [(n : Int)]) (by omega) (by omega) (fun v hm => ?_) (by rw [List.length_append, List.length_singleton]; omega)
        rcases List.mem_append.mp hm with e | e
        · rcases hv v e with e | ⟨a1, a2, a3⟩
          · exact Or.inl e
          · exact Or.inr ⟨a1, by omega, a3⟩
        · rw [List.mem_singleton.mp e]
          exact Or.inr ⟨c1, by omega, c2⟩
      · rw [decide_eq_false c2, if_neg (by simp)]
        exact hplain
    · rw [if_neg c1, if_neg (by simp)]
      exact hplain
theorem needs_l0 {cs : List S34} {fc st : List Int} {x y : Int} (hh : hdOk cs fc st x y = true) (c : Nat) (hc : c < cs.length) (list : List (List Int)) (hl : list.length ≤ 1000) : ∀ (t pre : List (List Int)) (b k : Nat) (seen : List Int), list = pre ++ t → chn (fun b => reachOf cs fc c b 0) fc.length st b t → (∀ v ∈ seen, v ≤ (b : Int)) → seen.length ≤ 100 * pre.length → 100000 + 200 * t.length < k →
    laws_FnNeeds.l0 k (c : Int) list seen (pre.length : Int) cs fc st x y = some true
  | [], pre, b, k, seen, he, _, _, _, hk => by
    obtain ⟨k, rfl⟩ : ∃ m, k = m + 1 := ⟨k - 1, by omega⟩
    rw [List.append_nil] at he
    simp only [laws_FnNeeds.l0]
    rw [if_neg (by rw [he]; omega)]
  | r :: t, pre, b, k, seen, he, hch, hv, hlen, hk => by
    obtain ⟨h1, h2, h3, n, h4, h5, h6, h7⟩ := hch
    dsimp only at h1 h2 h3 h5 h6
    have hin := hdOk_in hh
    generalize hTT : reachOf cs fc c b 0 = T at h1 h2 h3 h5 h6
    have hlp : pre.length < list.length := by rw [he]; simp
    have hrow : rd_L3 list (pre.length : Int) = [(b : Int), (T : Int)] := by
      unfold rd_L3
      rw [Int.toNat_natCast, he, List.getD_eq_getElem?_getD, List.getElem?_append_right (Nat.le_refl _), Nat.sub_self]
      exact h3
    have e0 : rd [(b : Int), (T : Int)] 0 = (b : Int) := rfl
    have e1 : rd [(b : Int), (T : Int)] 1 = (T : Int) := rfl
    have e2 : ([(b : Int), (T : Int)]).length = 2 := rfl
    rw [List.length_cons] at hk
    obtain ⟨K, rfl⟩ : ∃ m, k = (m + 2 * (T + 1 - b) + 1) + 1 + 1 := ⟨k - 2 * (T + 1 - b) - 3, by omega⟩
    obtain ⟨seen2, s1, s2, s3⟩ := needs_l1 hh c hc list pre.length b T hlp hrow hTT h1 h2 hl K (by omega) (T + 1 - b) b seen (by omega) (Nat.le_refl _) (fun v hm => Or.inl (hv v hm)) (by omega)
    rw [Nat.sub_self, show segS (wearStep cs fc c) b 0 = 0 from rfl] at s3
    have hrec := needs_l0 hh c hc list hl t (pre ++ [r]) n K seen2 (by rw [he]; simp) h7 (fun v hm => by
      rcases s1 v hm with e | ⟨a1, a2, a3⟩
      · omega
      · exact h6 v a3 a1 a2) (by rw [List.length_append, List.length_singleton]; omega) (by omega)
    rw [List.length_append, List.length_singleton] at hrec
    simp only [laws_FnNeeds.l0]
    rw [if_pos (by omega), if_pos (by omega), hrow, e0, e1, e2, if_pos (by omega), if_pos (by omega), if_neg (by omega), if_pos (by omega), if_neg (by omega), decide_eq_false (by omega)]
    simp only [laws_FnNeeds.j2]
    rw [if_neg (by simp), if_pos (by omega), if_pos (by omega), hrow, e0, e2, if_pos (by omega), s3]
    exact hrec
theorem r8At_in (m : List Int) (hm : ∀ v ∈ m, (Lit.int .u8 v).wf = true) (n : Nat) (hn : 1 ≤ n ∧ n ≤ 1000) (hl : m.length ≤ 1000) : ∃ c : Nat, c < n ∧ laws_r8At.f m 0 (n : Int) = some (c : Int) := by
  unfold laws_r8At.f
  by_cases h1 : (n : Int) ≤ 1
  · rw [if_pos h1]
    exact ⟨0, by omega, rfl⟩
  · rw [if_neg h1]
    by_cases h2 : (0 : Int) ≥ (m.length : Int)
    · rw [if_pos h2]
      exact ⟨0, by omega, rfl⟩
    · have hmem : rd m 0 ∈ m := by
        have := rd_at m 0 (by omega)
        rw [show ((0 : Nat) : Int) = 0 from rfl] at this
        rw [this]
        exact List.getElem_mem _
      have hv := wfu8 (hm _ hmem)
      rw [if_neg h2, if_pos (by omega), if_pos (by omega), if_neg (by omega), w64 (rd m 0) (by omega) (by omega)]
      have t1 := Int.tmod_nonneg (n : Int) hv.1
      have t2 := Int.tmod_lt_of_pos (rd m 0) (show (0 : Int) < (n : Int) by omega)
      exact ⟨((rd m 0).tmod (n : Int)).toNat, by omega, by rw [Int.toNat_of_nonneg t1]⟩
theorem FnNeeds : laws_FnNeeds.Pure := by
  intro l m _ _ hl _ _ hm
  obtain ⟨wearK, hW⟩ : ∃ n, wearOk n := ⟨_, Nat.lt_succ_self _⟩
  obtain ⟨F, hF⟩ : ∃ F, F = wearK + 600000000 := ⟨_, rfl⟩
  obtain ⟨G, hG⟩ : ∃ G, F = G + 1 := ⟨F - 1, by omega⟩
  obtain ⟨⟨cs, fc, st, x, y⟩, q1, hh, hz⟩ := drawHead_is l hl F (by omega)
  dsimp only at hh hz
  have hin := hdOk_in hh
  have hpw := rz_pw hz
  refine ⟨F, ?_⟩
  unfold laws_FnNeeds.f laws_r8Long.f
  by_cases h1 : (l.length : Int) > 48
  · rw [if_pos h1, bind_some_, if_pos rfl]
  · rw [if_neg h1, bind_some_]
    by_cases h2 : (m.length : Int) > 48
    · rw [if_pos (by simpa using h2)]
    · have hcn : 1 ≤ cs.length := by
        have := hh
        unfold hdOk at this
        simp only [Bool.and_eq_true, decide_eq_true_eq] at this
        omega
      obtain ⟨c, hc, q2⟩ := r8At_in m hm cs.length ⟨hcn, by omega⟩ (by omega)
      have hcut : cuOk cs c = true := by
        have := hh
        unfold hdOk at this
        simp only [Bool.and_eq_true, upTo_iff] at this
        exact this.2.2.2.2.1 c (by omega) (by omega)
      have hfc : ∀ v ∈ fc, 0 ≤ v ∧ v ≤ 100 := by
        have := hh
        unfold hdOk impl_areWithin.all at this
        simp only [Bool.and_eq_true, List.all_eq_true, decide_eq_true_eq] at this
        exact this.2.2.2.2.2.1
      have ha : hdOk [rd_T34 cs (c : Int)] fc st 0 1 = true := hd_make _ fc st 0 1 (by simp) (by omega) (by omega) hz (fun i hi => by
        have : i = 0 := by simp at hi; omega
        subst this
        exact hcut) hfc (by omega) (by omega)
      obtain ⟨a1, a2⟩ := alone_cost ha hz
      rw [stints_one] at a1 a2
      have hneeds : impl_NeedsOf.f F cs fc st x y (c : Int) = some (stints cs fc st c) := by
        have hm : (fc.length + 1) * (st.length + 2) ≤ 61 * 10 := Nat.mul_le_mul (by omega) (by omega)
        unfold impl_NeedsOf.f
        rw [implHead_is _ cs fc st x y (by omega) (by omega) (by omega) (by omega), bind_some_, if_pos hh, within_is, bind_some_, w64 ((cs.length : Int) - 1) (by omega) (by omega), if_pos (decide_eq_true (by omega)), implStints_is _ cs fc st x y (by omega) (by omega) c (by omega) (by omega), bind_some_]
      rw [if_neg (by simpa using h2), q1, bind_some_]
      dsimp only
      rw [q2, bind_some_, hneeds, bind_some_, if_pos (by omega), if_pos (by omega), bind_some_]
      have ey : [(⟨(rd_T34 cs (c : Int)).f0, (rd_T34 cs (c : Int)).f1⟩ : S34)] = [rd_T34 cs (c : Int)] := rfl
      rw [ey, implCheap_is wearK hW F _ fc st 0 1 (by simp) (by omega) (by omega) (by omega), bind_some_, a1, bne_self_eq_false, if_neg (by simp), implHead_is _ _ fc st 0 1 (by simp) (by omega) (by omega) (by simp only [List.length_singleton]; omega), bind_some_, ha, hG]
      simp only [laws_FnNeeds.j0]
      rw [if_neg (by simp)]
      by_cases hok : (stints cs fc st c).2 = true
      · have hch := stints_chn cs fc st c hpw hok
        have hsl := stints_len cs fc st c
        rw [if_pos hok, if_pos (a2 hok)]
        exact needs_l0 hh c hc _ (by omega) (stints cs fc st c).1 [] 0 G [] rfl hch (by simp) (by simp) (by omega)
      · rw [if_neg hok]

end Go.Proofs.Ytfcadpkhmkjibaa.Pure
