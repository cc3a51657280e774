/- The wear before a ring is that before the last one and what this ring wears, or 0 if the cutter is changed, and the first failure is the first ring in which a limit is exceeded; no condition. -/
import Derived.Test.YtajndapolblhmabCFnWorn3
import Derived.Test.YtajndapolblhmabCFnWorn4
import Derived.Test.YtajndapolblhmabCFnWorn0
namespace Go.Proofs.Ytajndapolblhmab.Pure
open Go.RowKit Go.Proofs.Ytajndapolblhmab.P Go.Proofs.YtajndapolblhmabW.PrintWords Go.Proofs.YtajndapolblhmabW.PrintLast Go.Proofs.YtajndapolblhmabW.PrintMore
set_option linter.unusedVariables false
set_option linter.unusedSimpArgs false
theorem worn_j6 (cs : List S79) (fc st : List Int) (x y : Int) (p : List S94) (hp : shortS p) (n : Nat) (hn : n < fc.length) (hb : fc.length ≤ 60) (hc : cs.length ≤ 5) (x7 : List Int) (x9 x10 : Int) (x11 f : Bool) (k j : Nat) (hj : j < cs.length) (hk : 3000000 < k) :
    laws_FnWorn.j6 (k + 1) p x7 x9 x10 x11 f n (wl cs.length (fun c => wearP cs fc p c (n + 1))) j (wearP cs fc p j n + wearStep cs fc j n) cs fc st x y = laws_FnWorn.l2 k p x7 x9 x10 x11 f n (wl cs.length (fun c => wearP cs fc p c (n + 1))) ((j + 1 : Nat) : Int) cs fc st x y := by
  have hpl := hp.1
  simp only [laws_FnWorn.j6]
  rw [w64s n (by omega), lawChanges_is k p _ _ hp (by omega), bind_some_, wl_len, w64s j (by omega), wl_rd _ _ j hj]
  have e : wearP cs fc p j (n + 1) = if chg p j ((n + 1 : Nat) : Int) = true then 0 else wearP cs fc p j n + wearStep cs fc j n := rfl
  by_cases h : chg p j ((n + 1 : Nat) : Int) = true
  · rw [if_pos h] at e
    rw [if_pos h, if_pos (by omega), if_pos (by omega), if_pos e]
  · rw [if_neg h] at e
    rw [if_neg h, if_pos (by omega), if_pos (by omega), if_pos e]
theorem worn_l2 (cs : List S79) (fc st : List Int) (x y : Int) (hh : hdOk cs fc st x y = true) (p : List S94) (hp : shortS p) (n : Nat) (hn : n < fc.length) (x9 x10 : Int) (x11 : Bool)
    (hff : ∀ c m, failP cs fc p = some (c, m) → x9 = (c : Int) ∧ x10 = (m : Int) ∧ x11 = true) (B : Nat) (hB : 4000000 ≤ B)
    (hcont : ∀ (k : Nat) (f : Bool), B ≤ k → (f = false → failN cs fc p (fc.length - (n + 1)) (n + 1) = failP cs fc p) → (f = true → (failP cs fc p).isSome = true) → laws_FnWorn.l1 k p (wl cs.length (fun c => wearP cs fc p c (n + 1))) x9 x10 x11 f ((n + 1 : Nat) : Int) cs fc st x y = some true) :
    ∀ (d k j : Nat) (f : Bool), j + d = cs.length → B + 3 * d < k → (f = false → failC cs fc p n d j = failC cs fc p n cs.length 0 ∧ failN cs fc p (fc.length - n) n = failP cs fc p) → (f = true → (failP cs fc p).isSome = true) → laws_FnWorn.l2 k p (wl cs.length (fun c => wearP cs fc p c n)) x9 x10 x11 f n (wl cs.length (fun c => wearP cs fc p c (n + 1))) j cs fc st x y = some true := by
  have hin := hdOk_in hh
  have hsn : fc.length - n = (fc.length - (n + 1)) + 1 := by omega
  intro d
  induction d with
  | zero =>
    intro k j f hj hk h1 h2
    obtain ⟨k, rfl⟩ : ∃ m, k = m + 1 := ⟨k - 1, by omega⟩
    simp only [laws_FnWorn.l2]
    rw [if_neg (by omega), w64s n (by omega)]
    refine hcont k f (by omega) ?_ h2
    intro hf
    obtain ⟨g1, g2⟩ := h1 hf
    rw [hsn] at g2
    simp only [failN] at g2
    rw [← g1] at g2
    exact g2
  | succ d ih =>
    intro k j f hj hk h1 h2
    obtain ⟨k, rfl⟩ : ∃ m, k = m + 1 + 1 + 1 := ⟨k - 3, by omega⟩
    have b1 := wearP_in p hh j (by omega) n (by omega)
    have b2 := step_in hh j n (by omega) hn
    have e1 : wrap64 ((rd_T79 cs (j : Int)).f0 * rd fc (n : Int)) = wearStep cs fc j n := by
      unfold wearStep at b2 ⊢
      rw [w64 _ (by omega) (by omega)]
    have hj6 := fun f => worn_j6 cs fc st x y p hp n hn (by omega) (by omega) (wl cs.length (fun c => wearP cs fc p c n)) x9 x10 x11 f k j (by omega) (by omega)
    simp only [laws_FnWorn.l2, laws_FnWorn.j5]
    rw [if_pos (by omega), if_pos (by omega), if_pos (by rw [wl_len]; omega), if_pos (by omega), if_pos (by omega), e1, wl_rd _ _ j (by omega), w64 (wearP cs fc p j n + wearStep cs fc j n) (by omega) (by omega)]
    simp only [hj6]
    by_cases h3 : wearP cs fc p j n + wearStep cs fc j n > (rd_T79 cs (j : Int)).f1
    · rw [if_pos h3]
      cases f with
      | true =>
        rw [if_neg (by simp)]
        exact ih k (j + 1) true (by omega) (by omega) (by simp) h2
      | false =>
        obtain ⟨g1, g2⟩ := h1 rfl
        simp only [failC] at g1
        rw [if_pos h3] at g1
        rw [hsn] at g2
        simp only [failN] at g2
        rw [← g1] at g2
        obtain ⟨a1, a2, a3⟩ := hff j n g2.symm
        rw [if_pos (by simp), if_pos a3, if_pos a1, if_pos a2]
        exact ih k (j + 1) true (by omega) (by omega) (by simp) (fun _ => by rw [← g2]; rfl)
    · rw [if_neg h3, if_neg (by simp)]
      refine ih k (j + 1) f (by omega) (by omega) ?_ h2
      intro hf
      obtain ⟨g1, g2⟩ := h1 hf
      simp only [failC] at g1
      rw [if_neg h3] at g1
      exact ⟨g1, g2⟩
theorem worn_l1 (wearK : Nat) (hW : wearOk wearK) (cs : List S79) (fc st : List Int) (x y : Int) (hh : hdOk cs fc st x y = true) (p : List S94) (hp : shortS p) (hpf : planFine cs fc st x y p = true) (x9 x10 : Int) (x11 : Bool)
    (hff : ∀ c m, failP cs fc p = some (c, m) → x9 = (c : Int) ∧ x10 = (m : Int) ∧ x11 = true) (hfn : x11 = (failP cs fc p).isSome) :
    ∀ (d k n : Nat) (f : Bool), n + d = fc.length → wearK + 20000000 + 30 * d < k → (f = false → failN cs fc p d n = failP cs fc p) → (f = true → (failP cs fc p).isSome = true) → laws_FnWorn.l1 k p (wl cs.length (fun c => wearP cs fc p c n)) x9 x10 x11 f n cs fc st x y = some true := by
  have hin := hdOk_in hh
  intro d
  induction d with
  | zero =>
    intro k n f hn hk h1 h2
    obtain ⟨k, rfl⟩ : ∃ m, k = m + 1 := ⟨k - 1, by omega⟩
    simp only [laws_FnWorn.l1]
    rw [if_neg (by omega), hfn]
    cases f with
    | true => rw [h2 rfl]; rfl
    | false => rw [← h1 rfl]; rfl
  | succ d ih =>
    intro k n f hn hk h1 h2
    obtain ⟨k, rfl⟩ : ∃ m, k = m + 1 + 1 := ⟨k - 2, by omega⟩
    have e : wornAtP cs fc st x y p ((n + 1 : Nat) : Int) = (wl cs.length (fun c => wearP cs fc p c (n + 1)), true) := by
      unfold wornAtP
      rw [if_pos hpf, if_pos (by omega), Int.toNat_natCast]
    simp only [laws_FnWorn.l1, laws_FnWorn.j3]
    rw [if_pos (by omega), w64s n (by omega), implWornAt_is wearK hW _ cs fc st x y p _ (by omega) (by omega) (by omega) hp (by omega), bind_some_, e, if_pos rfl, wl_len, if_neg (by simp)]
    refine worn_l2 cs fc st x y hh p hp n (by omega) x9 x10 x11 hff (wearK + 20000000 + 30 * d + 1) (by omega) ?_ cs.length k 0 f (by omega) (by omega) ?_ h2
    · intro k2 f2 g1 g2 g3
      refine ih k2 (n + 1) f2 (by omega) (by omega) ?_ g3
      intro hf
      have := g2 hf
      rwa [show fc.length - (n + 1) = d by omega] at this
    · intro hf
      refine ⟨rfl, ?_⟩
      rw [show fc.length - n = d + 1 by omega]
      exact h1 hf
theorem worn_l0 (cs : List S79) (fc st : List Int) (x y : Int) (hh : hdOk cs fc st x y = true) (p : List S94) (x9 x10 : Int) (x11 : Bool) (B : Nat)
    (hcont : ∀ k : Nat, B ≤ k → laws_FnWorn.l1 k p (wl cs.length (fun c => wearP cs fc p c 0)) x9 x10 x11 false 0 cs fc st x y = some true) :
    ∀ (d k j : Nat), j + d = cs.length → B + d < k → laws_FnWorn.l0 k p (wl cs.length (fun c => wearP cs fc p c 0)) x9 x10 x11 j cs fc st x y = some true := by
  have hin := hdOk_in hh
  intro d
  induction d with
  | zero =>
    intro k j hj hk
    obtain ⟨k, rfl⟩ : ∃ m, k = m + 1 := ⟨k - 1, by omega⟩
    simp only [laws_FnWorn.l0]
    rw [if_neg (by rw [wl_len]; omega)]
    exact hcont k (by omega)
  | succ d ih =>
    intro k j hj hk
    obtain ⟨k, rfl⟩ : ∃ m, k = m + 1 := ⟨k - 1, by omega⟩
    simp only [laws_FnWorn.l0]
    rw [if_pos (by rw [wl_len]; omega), if_pos (by omega), wl_rd _ _ j (by omega), if_pos (show wearP cs fc p j 0 = 0 from rfl), w64s j (by omega)]
    exact ih k (j + 1) (by omega) (by omega)
theorem FnWorn : laws_FnWorn.Pure := by
  intro l m _ _ hl _ _ hm
  obtain ⟨wearK, hW⟩ : ∃ n, wearOk n := ⟨_, Nat.lt_succ_self _⟩
  obtain ⟨F, hF⟩ : ∃ F, F = wearK + 30000000 := ⟨_, rfl⟩
  obtain ⟨⟨cs, fc, st, x, y⟩, q1, hh, hz⟩ := drawHead_is l hl (F + 1) (by omega)
  dsimp only at hh hz
  obtain ⟨p, q2, hpo, hp⟩ := drawPlan_is m hm cs fc st x y hh hz (F + 1) (by omega)
  have hin := hdOk_in hh
  have hpf : planFine cs fc st x y p = true := by unfold planFine; rw [hh, hpo]; rfl
  refine ⟨F + 1, ?_⟩
  unfold laws_FnWorn.f laws_r8Long.f
  by_cases h1 : (l.length : Int) > 48
  · rw [if_pos h1, bind_some_, if_pos rfl]
  · rw [if_neg h1, bind_some_]
    by_cases h2 : (m.length : Int) > 48
    · rw [if_pos (by simpa using h2)]
    · have e : wornAtP cs fc st x y p 0 = (wl cs.length (fun c => wearP cs fc p c 0), true) := by
        unfold wornAtP
        rw [if_pos hpf, if_pos (by omega)]
        rfl
      have e3 : enoughP cs fc st x y p = (failP cs fc p).isNone := by
        unfold enoughP
        rw [hpf]
        rfl
      have e4 : (hdOk cs fc st x y && planOk cs.length st p) = true := hpf
      rw [if_neg (by simpa using h2), q1, bind_some_]
      dsimp only
      rw [q2, bind_some_, implWornAt_is wearK hW _ cs fc st x y p 0 (by omega) (by omega) (by omega) hp (by omega), bind_some_, implFirstFailure_is wearK hW _ cs fc st x y p (by omega) (by omega) (by omega) hp (by omega), bind_some_, e]
      dsimp only
      rw [if_pos rfl, wl_len, if_pos rfl, implIsPlan_is _ cs fc st x y p (by omega) (by omega) (by omega) hp (by have := hp.1; omega), bind_some_, if_pos e4, implIsEnough_is wearK hW _ cs fc st x y p (by omega) (by omega) (by omega) hp (by omega), bind_some_, e3]
      simp only [laws_FnWorn.j0]
      have hff : ∀ c n, failP cs fc p = some (c, n) → (firstFailP cs fc st x y p).1 = (c : Int) ∧ (firstFailP cs fc st x y p).2.1 = (n : Int) ∧ (firstFailP cs fc st x y p).2.2 = true := by
        intro c n h
        unfold firstFailP
        rw [if_pos hpf, h]
        exact ⟨rfl, rfl, rfl⟩
      have hfn : (firstFailP cs fc st x y p).2.2 = (failP cs fc p).isSome := by
        unfold firstFailP
        rw [if_pos hpf]
        cases failP cs fc p with
        | none => rfl
        | some q => obtain ⟨c, n⟩ := q; rfl
      have hx : ((firstFailP cs fc st x y p).2.2 == (failP cs fc p).isNone) = false := by
        rw [hfn]
        cases failP cs fc p <;> rfl
      rw [hx, if_neg (by simp)]
      exact worn_l0 cs fc st x y hh p _ _ _ (wearK + 29900000) (fun k hk => worn_l1 wearK hW cs fc st x y hh p hp hpf _ _ _ hff hfn fc.length k 0 false (by omega) (by omega) (fun _ => rfl) (by simp)) cs.length _ 0 (by omega) (by omega)

end Go.Proofs.Ytajndapolblhmab.Pure
