/- What the claim of FnWatched bears, part 1: functions of the program as plain Lean functions, with proofs that the code comes to their answers, and lemmas on them. -/
import Derived.Test.YtajndapolblhmabCFnWatched0
-- Walks of this claim's functions, laid by a program of this session.
namespace Go.Proofs.Ytajndapolblhmab.P
open Go.RowKit Go.Proofs.YtajndapolblhmabW.PrintWords Go.Proofs.YtajndapolblhmabW.PrintLast Go.Proofs.YtajndapolblhmabW.PrintMore
attribute [local go_sem] max2_int min2_int max_two min_two max_three min_three max_four min_four   -- for this text's walks alone
set_option linter.unusedVariables false
set_option linter.unusedSimpArgs false

/-! ### impl_StretchesAt: function 19 -/
mutual
def impl_StretchesAt.j0 : Nat → List Int → Int → Bool → Option ((List (List Int)) × Bool)
  | 0, _, _, _ => none
  | k + 1, x0, x1, x16 => if x16 = true then (some (([] : List (List Int)), false)) else (impl_StretchesAt.l0 k x0 x1 (([] : List (List Int))) x0 (x0.length : Int) 0)
def impl_StretchesAt.l0 : Nat → List Int → Int → List (List Int) → List Int → Int → Int → Option ((List (List Int)) × Bool)
  | 0, _, _, _, _, _, _ => none
  | k + 1, x0, x1, x6, x18, x19, x20 => if x20 < x19 then (if 0 ≤ x20 then (if x20 < (x18.length : Int) then (if (rd x18 x20) < x1 then (impl_StretchesAt.l0 k x0 x1 x6 x18 x19 (wrap64 (x20 + 1))) else (if x20 > 0 then (if 0 ≤ (wrap64 (x20 - 1)) then (if (wrap64 (x20 - 1)) < (x0.length : Int) then (if (rd x0 (wrap64 (x20 - 1))) ≥ x1 then (if 0 ≤ (wrap64 ((x6.length : Int) - 1)) then (if (wrap64 ((x6.length : Int) - 1)) < (x6.length : Int) then (if 1 < ((rd_L3 x6 (wrap64 ((x6.length : Int) - 1))).length : Int) then (impl_StretchesAt.l0 k x0 x1 (x6.set ((wrap64 ((x6.length : Int) - 1)) : Int).toNat ((rd_L3 x6 (wrap64 ((x6.length : Int) - 1))).set (1 : Int).toNat x20)) x18 x19 (wrap64 (x20 + 1))) else (none)) else (none)) else (none)) else (if x6.length < 5864062014805 then (impl_StretchesAt.l0 k x0 x1 (x6 ++ [(([x20, x20] : List Int))]) x18 x19 (wrap64 (x20 + 1))) else (none))) else (none)) else (none)) else (if x6.length < 5864062014805 then (impl_StretchesAt.l0 k x0 x1 (x6 ++ [(([x20, x20] : List Int))]) x18 x19 (wrap64 (x20 + 1))) else (none)))) else (none)) else (none)) else (some (x6, true))
end
def impl_StretchesAt.f (k : Nat) (l0 : List Int) (a1 : Int) : Option ((List (List Int)) × Bool) := (impl_isSettled.f l0).bind fun t174 => (if t174 = true then ((impl_within.f a1 1 2000000).bind fun t175 => (impl_StretchesAt.j0 k l0 a1 (!t175))) else (impl_StretchesAt.j0 k l0 a1 true))
theorem impl_StretchesAt.mono_l : ∀ k, (∀ y0 y1 y2, LeO (impl_StretchesAt.j0 k y0 y1 y2) (impl_StretchesAt.j0 (k + 1) y0 y1 y2)) ∧ (∀ y0 y1 y2 y3 y4 y5, LeO (impl_StretchesAt.l0 k y0 y1 y2 y3 y4 y5) (impl_StretchesAt.l0 (k + 1) y0 y1 y2 y3 y4 y5))
  | 0 => ⟨fun _ _ _ r h => by simp [impl_StretchesAt.j0] at h, fun _ _ _ _ _ _ r h => by simp [impl_StretchesAt.l0] at h⟩
  | k + 1 => by
    obtain ⟨ih0, ih1⟩ := impl_StretchesAt.mono_l k
    refine ⟨?_, ?_⟩
    · intro y0 y1 y2
      unfold impl_StretchesAt.j0
      repeat' first
      | (with_reducible exact ih0 _ _ _)
      | (with_reducible exact ih1 _ _ _ _ _ _)
      | (with_reducible exact LeO.refl _)
      | (with_reducible exact LeO.none _)
      | (with_reducible refine LeO.ite ?_ ?_)
      | (with_reducible refine LeO.bind ?_ (fun _ => ?_))
      | exact ih0 _ _ _
      | exact ih1 _ _ _ _ _ _
      | exact LeO.none _
      | refine LeO.ite ?_ ?_
      | refine LeO.bind ?_ (fun _ => ?_)
    · intro y0 y1 y2 y3 y4 y5
      unfold impl_StretchesAt.l0
      repeat' first
      | (with_reducible exact ih0 _ _ _)
      | (with_reducible exact ih1 _ _ _ _ _ _)
      | (with_reducible exact LeO.refl _)
      | (with_reducible exact LeO.none _)
      | (with_reducible refine LeO.ite ?_ ?_)
      | (with_reducible refine LeO.bind ?_ (fun _ => ?_))
      | exact ih0 _ _ _
      | exact ih1 _ _ _ _ _ _
      | exact LeO.none _
      | refine LeO.ite ?_ ?_
      | refine LeO.bind ?_ (fun _ => ?_)
theorem impl_StretchesAt.mono : ∀ a0 a1 k, LeO (impl_StretchesAt.f k a0 a1) (impl_StretchesAt.f (k + 1) a0 a1) := by
  intro a0 a1 k
  obtain ⟨ih0, ih1⟩ := impl_StretchesAt.mono_l k
  unfold impl_StretchesAt.f
  repeat' first
      | (with_reducible exact ih0 _ _ _)
      | (with_reducible exact ih1 _ _ _ _ _ _)
      | (with_reducible exact LeO.refl _)
      | (with_reducible exact LeO.none _)
      | (with_reducible refine LeO.ite ?_ ?_)
      | (with_reducible refine LeO.bind ?_ (fun _ => ?_))
      | exact ih0 _ _ _
      | exact ih1 _ _ _ _ _ _
      | exact LeO.none _
      | refine LeO.ite ?_ ?_
      | refine LeO.bind ?_ (fun _ => ?_)
set_option maxHeartbeats 8000000 in
set_option maxRecDepth 100000 in
theorem impl_StretchesAt.calls (k : Nat) (A0 : Option Addr) (c0 : Nat) (l0 : List Int) (a1 : Int) (r1 : List (List Int)) (r2 : Bool) (w : World) (hr0 : Kd.C (Kd.int .i64) w A0 l0.length l0) (hc0 : l0.length ≤ c0) (h : impl_StretchesAt.f k l0 a1 = some (r1, r2)) :
    Calls Try.prog 19 #[.slice A0 l0.length c0, .int .i64 a1] w fun e w' => ∃ v0_ : Value, e = .returned (.tuple #[v0_, .bool r2]) ∧ Kd.S (Kd.slice 2 (Kd.int .i64)) 24 w' w.heap.size (fun _ => True) v0_ r1 ∧ Below w.heap.size w w' := by
  have HR0 := Aside0.mk hr0
  have HC0 := Aside0.mk hc0
  clear hr0 hc0
  have HB := Aside0.mk (Below.refl w.heap.size w)
  have H : ((impl_isSettled.f l0).bind fun t174 => (if t174 = true then ((impl_within.f a1 1 2000000).bind fun t175 => (impl_StretchesAt.j0 k l0 a1 (!t175))) else (impl_StretchesAt.j0 k l0 a1 true))) = some (r1, r2) := h
  clear h
  have HC3 := Aside0.mk H
  clear H
  go_enter Try.func19, Try.ntmps19
  go_upto_region 1 with (fail)
  go_cut [16] (fun v16 wc => ∃ (kq : Nat) (x16_2 : Bool), v16 = .bool x16_2 ∧ Aside0 (impl_StretchesAt.j0 kq l0 a1 x16_2 = some (r1, r2)) ∧ Aside0 (kq ≤ k) ∧ Aside0 (Below w.heap.size w wc))
  case first =>
    have H := HC3.out
    clear HC3
    replace H := Option.bind_eq_some_iff.mp H
    obtain ⟨t174, A40, H⟩ := H
    replace H : (if t174 = true then ((impl_within.f a1 1 2000000).bind fun t175 => (impl_StretchesAt.j0 k l0 a1 (!t175))) else (impl_StretchesAt.j0 k l0 a1 true)) = some (r1, r2) := H
    have A4 := Aside0.mk A40
    clear A40
    by_cases c5 : t174 = true
    · subst c5
      have H1 : ((impl_within.f a1 1 2000000).bind fun t175 => (impl_StretchesAt.j0 k l0 a1 (!t175))) = some (r1, r2) := by rw [if_pos rfl] at H; exact H
      clear H
      have H := H1
      clear H1
      replace H := Option.bind_eq_some_iff.mp H
      obtain ⟨t175, A60, H⟩ := H
      replace H : (impl_StretchesAt.j0 k l0 a1 (!t175)) = some (r1, r2) := H
      have A6 := Aside0.mk A60
      clear A60
      have H' := Aside0.mk H
      clear H
      go_wp2_with (first | ((with_reducible refine gate_callee (f := 75) rfl ?_); refine goesL_ (some 10) rfl rfl Try.func75 (by kernel_rfl) rfl #[.slice A0 l0.length c0] rfl (by (try simp only [List.map_toArray, List.map_cons, List.map_nil]); first | done | rfl | (simp only [List.length_drop, List.length_take]; rfl)) ?_; (with_reducible refine (impl_isSettled.calls _ _ l0 true _ ?side1 ?side2 A4.out).mono ?_); (case side1 => repeat (first | exact (Kd.C_below HR0.out HB.out) | (with_reducible refine Kd.C_alloc ?_ _) | (with_reducible refine Kd.C_drewN ?_ _) | (with_reducible refine Kd.C_drew ?_))); (case side2 => exact HC0.out); rintro e w7 ⟨rfl, hb⟩; refine ⟨_, rfl, ?_⟩; have n0_ := Aside0.mk (below_step (by repeat (first | (with_reducible first | exact HB.out | apply below_alloc | apply pw_below_drewN | apply below_drew1) | exact HB.out)) hb); clear HB; have HB := n0_; clear n0_; (try clear hb); (try clear hb2); (try clear hk); (try clear hi)) | (go_at_call 77; (with_reducible refine (impl_within.calls a1 1 2000000 t175 _ A6.out).mono ?_); rintro e w' ⟨rfl, ⟨nd, rfl⟩⟩))
      go_meet
      case rel => exact ⟨_, (!t175), (by first | rfl | (simp; done) | (simp [*]; done) | (simp [Int.tdiv_eq_ediv_of_nonneg, *]; done)), H', ⟨by first | omega | exact Nat.le_refl _⟩, ⟨by repeat (first | (with_reducible first | exact HB.out | apply below_alloc | apply pw_below_drewN | apply below_drew1) | exact HB.out)⟩⟩
    · replace c5 := Bool.eq_false_iff.mpr c5
      subst c5
      have H1 : (impl_StretchesAt.j0 k l0 a1 true) = some (r1, r2) := by rw [if_neg (show ¬ (false = true) by decide)] at H; exact H
      clear H
      have H := H1
      clear H1
      have H' := Aside0.mk H
      clear H
      go_wp2_with (first | ((with_reducible refine gate_callee (f := 75) rfl ?_); refine goesL_ (some 10) rfl rfl Try.func75 (by kernel_rfl) rfl #[.slice A0 l0.length c0] rfl (by (try simp only [List.map_toArray, List.map_cons, List.map_nil]); first | done | rfl | (simp only [List.length_drop, List.length_take]; rfl)) ?_; (with_reducible refine (impl_isSettled.calls _ _ l0 false _ ?side1 ?side2 A4.out).mono ?_); (case side1 => repeat (first | exact (Kd.C_below HR0.out HB.out) | (with_reducible refine Kd.C_alloc ?_ _) | (with_reducible refine Kd.C_drewN ?_ _) | (with_reducible refine Kd.C_drew ?_))); (case side2 => exact HC0.out); rintro e w8 ⟨rfl, hb⟩; refine ⟨_, rfl, ?_⟩; have n0_ := Aside0.mk (below_step (by repeat (first | (with_reducible first | exact HB.out | apply below_alloc | apply pw_below_drewN | apply below_drew1) | exact HB.out)) hb); clear HB; have HB := n0_; clear n0_; (try clear hb); (try clear hb2); (try clear hk); (try clear hi)))
      go_meet
      case rel => exact ⟨_, (true), (by first | rfl | (simp; done) | (simp [*]; done) | (simp [Int.tdiv_eq_ediv_of_nonneg, *]; done)), H', ⟨by first | omega | exact Nat.le_refl _⟩, ⟨by repeat (first | (with_reducible first | exact HB.out | apply below_alloc | apply pw_below_drewN | apply below_drew1) | exact HB.out)⟩⟩
  case rest =>
    clear HC3
    try clear c1
    try clear p2
    try clear c5
    try clear c7
    obtain ⟨kq, x16_2, rfl, HA, HJ2, HB⟩ := hcut
    cases kq with
    | zero => exact absurd HA.out (by simp [impl_StretchesAt.j0])
    | succ kj2 =>
      have H := HA.out
      clear HA
      simp only [impl_StretchesAt.j0] at H
      by_cases c9 : x16_2 = true
      · subst c9
        have H1 : (some (([] : List (List Int)), false)) = some (r1, r2) := by rw [if_pos rfl] at H; exact H
        clear H
        have H := H1
        clear H1
        simp only [Option.some.injEq, Prod.mk.injEq] at H
        obtain ⟨rfl, rfl⟩ := H
        go_wp2
        go_ret2
        exact ⟨_, by first | rfl | (simp [errW_none, errW_some] <;> rfl) | (simp [*, errW_none, errW_some] <;> rfl) | (simp [Int.tdiv_eq_ediv_of_nonneg, *]; done), by first | exact Kd.S_nil _ _ _ _ _ | exact Kd.N_nil _ _ _ _ _ | exact Kd.V_nil _ _ _ _ _ | exact Kd.Q_nil _ _ _ _ _ | exact Kd.R_nil _ _ _ _ _, by repeat (first | (with_reducible first | exact HB.out | apply below_alloc | apply pw_below_drewN | apply below_drew1) | exact HB.out)⟩
      · replace c9 := Bool.eq_false_iff.mpr c9
        subst c9
        have H1 : (impl_StretchesAt.l0 kj2 l0 a1 (([] : List (List Int))) l0 (l0.length : Int) 0) = some (r1, r2) := by rw [if_neg (show ¬ (false = true) by decide)] at H; exact H
        clear H
        have H := H1
        clear H1
        obtain ⟨y176, hy176⟩ : ∃ y_ : List (List Int), y_ = (([] : List (List Int))) := ⟨_, rfl⟩
        replace H : (impl_StretchesAt.l0 kj2 l0 a1 y176 l0 (l0.length : Int) 0) = some (r1, r2) := by first | (rw [hy176]; with_reducible exact H) | (have H2_ := (Option.bind_some _ _).symm.trans H; rw [hy176]; with_reducible exact H2_) | (have H2_ := (Option.bind_some _ _).symm.trans H; with_reducible exact H2_) | with_reducible exact H | (rw [hy176]; exact H) | exact H
        have Ny176 := Aside0.mk hy176
        clear hy176
        have H' := Aside0.mk H
        clear H
        go_wp2_with (first | ((with_reducible refine gate_dst (N := 17) rfl ?_); refine Kd.S_lit (Kd.slice 2 (Kd.int .i64)) _ 24 ?hg (N := 17) ?hd (xs := ([] : List (List Int))) (inner := []) (ok := fun _ => True) (okp := fun _ => True) ?hr ?hp (fun _ hk => hk) trivial (Below.refl _ _) (Nat.le_refl _) (by simp) ?_; (case hd => rfl); (case hg => rfl); (case hr => first | (go_simp; done) | (go_simp; rfl)); (case hp => exact (Reps.none _ _)); intro v177 w10 ho11 hb hg_ hnew_; clear hg_ hnew_; (first | rw [← Ny176.out] at ho11 | (simp only [Int.reduceToNat] at ho11; rw [← Ny176.out] at ho11)); have n0_ := Aside0.mk (Kd.S_lower ho11 (below_size (by repeat (first | (with_reducible first | exact HB.out | apply below_alloc | apply pw_below_drewN | apply below_drew1) | exact HB.out)))); have n1_ := Aside0.mk (below_step (by repeat (first | (with_reducible first | exact HB.out | apply below_alloc | apply pw_below_drewN | apply below_drew1) | exact HB.out)) hb); clear HB; have HO178 := n0_; have HB := n1_; clear n0_ n1_; clear hb ho11))
        go_loopg [6, 20] kj2 (fun kq v6 v20 w' => ∃ (x6_2 : List (List Int)) (x20_2 : Int), v20 = .int .i64 x20_2 ∧ Aside0 (impl_StretchesAt.l0 kq l0 a1 x6_2 l0 (l0.length : Int) x20_2 = some (r1, r2)) ∧ Aside0 (kq ≤ kj2) ∧ Aside0 (Kd.S (Kd.slice 2 (Kd.int .i64)) 24 w' w.heap.size (fun _ => True) v6 x6_2) ∧ Aside0 (Below w.heap.size w w'))
        case atStart => exact ⟨(y176), (0), (by first | rfl | (simp; done) | (simp [*]; done) | (simp [Int.tdiv_eq_ediv_of_nonneg, *]; done)), H', ⟨Nat.le_refl _⟩, ⟨by (with_reducible repeat (first | apply Kd.S_alloc | apply Kd.S_drewN | apply Kd.S_drew)); exact HO178.out⟩, ⟨by repeat (first | (with_reducible first | exact HB.out | apply below_alloc | apply pw_below_drewN | apply below_drew1) | exact HB.out)⟩⟩
        case round =>
          clear H'
          try clear c1
          try clear p2
          try clear c5
          try clear c7
          try clear c9
          try clear p2
          obtain ⟨x6_2, x20_2, rfl, HA, HK2, HO_6, HB⟩ := hrel
          cases gk with
          | zero => exact absurd HA.out (by simp [impl_StretchesAt.l0])
          | succ k2 =>
            have H := HA.out
            clear HA
            simp only [impl_StretchesAt.l0] at H
            by_cases c12 : x20_2 < (l0.length : Int)
            · rw [if_pos c12] at H
              have c12b0 : decide (x20_2 < (l0.length : Int)) = true := decide_eq_true c12
              clear c12
              by_cases c13 : 0 ≤ x20_2
              · rw [if_pos c13] at H
                have c13b0 : decide (0 ≤ x20_2) = true := decide_eq_true c13
                clear c13
                by_cases c14 : x20_2 < (l0.length : Int)
                · rw [if_pos c14] at H
                  have c14b0 : decide (x20_2 < (l0.length : Int)) = true := decide_eq_true c14
                  clear c14
                  by_cases c15 : (rd l0 x20_2) < a1
                  · rw [if_pos c15] at H
                    have c15b0 : decide ((rd l0 x20_2) < a1) = true := decide_eq_true c15
                    clear c15
                    have H' := Aside0.mk H
                    clear H
                    have p179 : 0 ≤ (x20_2 : Int) := of_decide_eq_true (by first | (with_reducible assumption) | assumption)
                    have q179 : x20_2 < (l0.length : Int) := of_decide_eq_true (by first | (with_reducible assumption) | assumption)
                    obtain ⟨ad179, e179, hx179_0⟩ := Kd.at_int HR0.out x20_2 p179 q179
                    cases e179
                    replace hx179_0 := (HB.out.cell (World.block_lt_of_cell? w _ hx179_0)).trans hx179_0
                    replace p179 := eq_true p179
                    replace q179 := eq_true q179
                    go_wp2
                    go_roundg k2
                    case measure => have := HJ2.out; have := HK2.out; omega
                    case rel => exact ⟨(x6_2), (wrap64 (x20_2 + 1)), (by first | rfl | (simp; done) | (simp [*]; done) | (simp [Int.tdiv_eq_ediv_of_nonneg, *]; done)), H', ⟨by have := HJ2.out; have := HK2.out; omega⟩, ⟨by (with_reducible repeat (first | apply Kd.S_alloc | apply Kd.S_drewN | apply Kd.S_drew)); exact HO_6.out⟩, ⟨by repeat (first | (with_reducible first | exact HB.out | apply below_alloc | apply pw_below_drewN | apply below_drew1) | exact HB.out)⟩⟩
                  · rw [if_neg c15] at H
                    have c15b0 : decide ((rd l0 x20_2) < a1) = false := decide_eq_false c15
                    clear c15
                    by_cases c16 : x20_2 > 0
                    · rw [if_pos c16] at H
                      have c16b0 : decide (0 < x20_2) = true := decide_eq_true c16
                      clear c16
                      obtain ⟨ji17, hji17⟩ : ∃ j_ : Int, (wrap64 (x20_2 - 1)) = j_ := ⟨_, rfl⟩
                      replace H : (if 0 ≤ (ji17) then (if (ji17) < (l0.length : Int) then (if (rd l0 (ji17)) ≥ a1 then (if 0 ≤ (wrap64 ((x6_2.length : Int) - 1)) then (if (wrap64 ((x6_2.length : Int) - 1)) < (x6_2.length : Int) then (if 1 < ((rd_L3 x6_2 (wrap64 ((x6_2.length : Int) - 1))).length : Int) then (impl_StretchesAt.l0 k2 l0 a1 (x6_2.set ((wrap64 ((x6_2.length : Int) - 1)) : Int).toNat ((rd_L3 x6_2 (wrap64 ((x6_2.length : Int) - 1))).set (1 : Int).toNat x20_2)) l0 (l0.length : Int) (wrap64 (x20_2 + 1))) else (none)) else (none)) else (none)) else (if x6_2.length < 5864062014805 then (impl_StretchesAt.l0 k2 l0 a1 (x6_2 ++ [(([x20_2, x20_2] : List Int))]) l0 (l0.length : Int) (wrap64 (x20_2 + 1))) else (none))) else (none)) else (none)) = some (r1, r2) := by first | (rw [hji17] at H; exact H) | (simp only [hji17] at H ⊢; exact H)
                      have hji17w : (IntKind.i64.wrap (x20_2 - 1)) = ji17 := (i64_w _).trans hji17
                      by_cases c18 : 0 ≤ (ji17)
                      · rw [if_pos c18] at H
                        have c18b0 : decide (0 ≤ (ji17)) = true := decide_eq_true c18
                        clear c18
                        by_cases c19 : (ji17) < (l0.length : Int)
                        · rw [if_pos c19] at H
                          have c19b0 : decide ((ji17) < (l0.length : Int)) = true := decide_eq_true c19
                          clear c19
                          by_cases c20 : (rd l0 (ji17)) ≥ a1
                          · rw [if_pos c20] at H
                            have c20b0 : decide (a1 ≤ (rd l0 (ji17))) = true := decide_eq_true c20
                            clear c20
                            obtain ⟨ji21, hji21⟩ : ∃ j_ : Int, (wrap64 ((x6_2.length : Int) - 1)) = j_ := ⟨_, rfl⟩
                            replace H : (if 0 ≤ (ji21) then (if (ji21) < (x6_2.length : Int) then (if 1 < ((rd_L3 x6_2 (ji21)).length : Int) then (impl_StretchesAt.l0 k2 l0 a1 (x6_2.set ((ji21) : Int).toNat ((rd_L3 x6_2 (ji21)).set (1 : Int).toNat x20_2)) l0 (l0.length : Int) (wrap64 (x20_2 + 1))) else (none)) else (none)) else (none)) = some (r1, r2) := by first | (rw [hji21] at H; exact H) | (simp only [hji21] at H ⊢; exact H)
                            have hji21w : (IntKind.i64.wrap ((x6_2.length : Int) - 1)) = ji21 := (i64_w _).trans hji21
                            by_cases c22 : 0 ≤ (ji21)
                            · rw [if_pos c22] at H
                              have c22b0 : decide (0 ≤ (ji21)) = true := decide_eq_true c22
                              clear c22
                              by_cases c23 : (ji21) < (x6_2.length : Int)
                              · rw [if_pos c23] at H
                                have c23b0 : decide ((ji21) < (x6_2.length : Int)) = true := decide_eq_true c23
                                clear c23
                                by_cases c24 : 1 < ((rd_L3 x6_2 (ji21)).length : Int)
                                · rw [if_pos c24] at H
                                  have c24b0 : decide (1 < ((rd_L3 x6_2 (ji21)).length : Int)) = true := decide_eq_true c24
                                  have c24b1 : decide (1 < (rd_L3 x6_2 (ji21)).length) = true := decide_eq_true (by omega)
                                  clear c24
                                  obtain ⟨y182, hy182⟩ : ∃ y_ : List Int, y_ = ((rd_L3 x6_2 (ji21)).set (1 : Int).toNat x20_2) := ⟨_, rfl⟩
                                  replace H : (impl_StretchesAt.l0 k2 l0 a1 (x6_2.set ((ji21) : Int).toNat y182) l0 (l0.length : Int) (wrap64 (x20_2 + 1))) = some (r1, r2) := by first | (rw [hy182]; with_reducible exact H) | (have H2_ := (Option.bind_some _ _).symm.trans H; rw [hy182]; with_reducible exact H2_) | (have H2_ := (Option.bind_some _ _).symm.trans H; with_reducible exact H2_) | with_reducible exact H | (rw [hy182]; exact H) | exact H
                                  have Ny182 := Aside0.mk hy182
                                  clear hy182
                                  obtain ⟨y184, hy184⟩ : ∃ y_ : List (List Int), y_ = (x6_2.set ((ji21) : Int).toNat y182) := ⟨_, rfl⟩
                                  replace H : (impl_StretchesAt.l0 k2 l0 a1 y184 l0 (l0.length : Int) (wrap64 (x20_2 + 1))) = some (r1, r2) := by first | (rw [hy184]; with_reducible exact H) | (have H2_ := (Option.bind_some _ _).symm.trans H; rw [hy184]; with_reducible exact H2_) | (have H2_ := (Option.bind_some _ _).symm.trans H; with_reducible exact H2_) | with_reducible exact H | (rw [hy184]; exact H) | exact H
                                  have Ny184 := Aside0.mk hy184
                                  clear hy184
                                  have H' := Aside0.mk H
                                  clear H
                                  have p179 : 0 ≤ (x20_2 : Int) := of_decide_eq_true (by first | (with_reducible assumption) | assumption)
                                  have q179 : x20_2 < (l0.length : Int) := of_decide_eq_true (by first | (with_reducible assumption) | assumption)
                                  obtain ⟨ad179, e179, hx179_0⟩ := Kd.at_int HR0.out x20_2 p179 q179
                                  cases e179
                                  replace hx179_0 := (HB.out.cell (World.block_lt_of_cell? w _ hx179_0)).trans hx179_0
                                  replace p179 := eq_true p179
                                  replace q179 := eq_true q179
                                  have p180 : 0 ≤ ((ji17) : Int) := of_decide_eq_true (by first | (with_reducible assumption) | assumption)
                                  have q180 : (ji17) < (l0.length : Int) := of_decide_eq_true (by first | (with_reducible assumption) | assumption)
                                  obtain ⟨ad180, e180, hx180_0⟩ := Kd.at_int HR0.out (ji17) p180 q180
                                  obtain rfl : ad179 = ad180 := (by injection e180)
                                  replace hx180_0 := (HB.out.cell (World.block_lt_of_cell? w _ hx180_0)).trans hx180_0
                                  replace p180 := eq_true p180
                                  replace q180 := eq_true q180
                                  obtain ⟨Ao26, co26, eo26⟩ := Kd.S_slice HO_6.out
                                  subst eo26
                                  have p181 : 0 ≤ ((ji21) : Int) := of_decide_eq_true (by first | (with_reducible assumption) | assumption)
                                  have q181 : (ji21) < (x6_2.length : Int) := of_decide_eq_true (by first | (with_reducible assumption) | assumption)
                                  obtain ⟨ad181, A181_0, c181_0, e181, hx181_0, hl181_0, hi181_0⟩ := at_L3 (Kd.S_reads' HO_6.out).2.2 (ji21) p181 q181
                                  cases e181
                                  obtain ⟨ce181, hce181, hMe181, hcc181⟩ := Kd.S_get HO_6.out [] (ji21) p181 (by first | exact q181 | exact of_decide_eq_true (by first | (with_reducible assumption) | assumption) | (have e_ := (Kd.S_reads' HO_6.out).1; omega))
                                  obtain ⟨ve181_0, rfl, ge181_0⟩ := hMe181
                                  have hv181_0 := hcc181 0 _ rfl
                                  rw [Nat.add_zero, show ((Kd.slice 2 (Kd.int .i64))).sz = 1 from rfl, Nat.mul_one] at hv181_0
                                  replace hv181_0 := Option.some.inj (hv181_0.symm.trans hx181_0)
                                  rw [hv181_0] at ge181_0
                                  have HL181_0 := Aside0.mk (show Kd.R (Kd.int .i64) 2 _ _ _ _ (rd_L3 x6_2 (ji21)) from ge181_0)
                                  clear hv181_0 ge181_0
                                  have HX181_0 := Aside0.mk hx181_0
                                  clear hcc181 hce181
                                  have HR181_0 := Aside0.mk hi181_0
                                  have HC181_0 := Aside0.mk hl181_0
                                  clear hi181_0 hl181_0
                                  replace p181 := eq_true p181
                                  replace q181 := eq_true q181
                                  have p25 : 0 ≤ (1 : Int) := (by omega)
                                  have q25 : (1 : Int) < (((rd_L3 x6_2 (ji21)).length : Int) : Int) := of_decide_eq_true (by first | (with_reducible assumption) | assumption)
                                  have qi25 : (1 < (rd_L3 x6_2 (ji21)).length) = True := eq_true (by omega)
                                  obtain ⟨go25, co25, eo25, gb25, gl25, cl25, HG25⟩ := Kd.R_form HL181_0.out (by omega)
                                  (first | cases eo25 | (injection eo25 with ea_ en_ ec_; (first | subst ea_ | (injection ea_ with ea_; subst ea_)); subst ec_; clear en_))
                                  have GB25 := Aside0.mk gb25
                                  have GG25 := Aside0.mk HG25
                                  clear gb25 gl25 HG25
                                  obtain ⟨hx25_0, hf25_0⟩ := Kd.R_celln 0 HL181_0.out (1 : Int) p25 q25
                                  (try rw [show ((1 : Int)).toNat = 1 from rfl] at hx25_0)
                                  (try simp only [Nat.reduceMul, Nat.zero_mul, Nat.zero_add, Nat.reduceAdd] at hx25_0)
                                  (try rw [show ((1 : Int)).toNat = 1 from rfl] at hf25_0)
                                  (try simp only [Nat.reduceMul, Nat.zero_mul, Nat.zero_add, Nat.reduceAdd] at hf25_0)
                                  replace p25 := eq_true p25
                                  replace q25 := eq_true q25
                                  have hq27 : ((ji21) : Int) < (x6_2.length : Int) := (by have h_ : ((ji21) : Int) < ((x6_2.length : Int) : Int) := of_decide_eq_true (by first | (with_reducible assumption) | assumption); first | exact h_ | (have e_ := (Kd.S_reads' HO_6.out).1; omega) | simpa only [List.length_set, List.length_set] using h_)
                                  obtain ⟨oki27, ce27, hcl27, hM27, hcc27, hok27, hbk27⟩ := Kd.S_borrow HO_6.out [] ((ji21) : Int) (of_decide_eq_true (by first | (with_reducible assumption) | assumption)) hq27
                                  obtain ⟨ve27_0, rfl, ge27_0⟩ := hM27
                                  have hv27 := hcc27 0 _ rfl
                                  rw [Nat.add_zero, show ((Kd.slice 2 (Kd.int .i64))).sz = 1 from rfl, Nat.mul_one] at hv27
                                  replace hv27 := Option.some.inj (hv27.symm.trans HX181_0.out)
                                  subst hv27
                                  clear hcc27 hcl27
                                  replace ge27_0 := (show Kd.R (Kd.int .i64) 2 _ _ _ _ (rd_L3 x6_2 (ji21)) from ge27_0)
                                  have HP27 := Kd.R_putg ge27_0 (1 : Int) x20_2
                                  go_wp2_with (first | ((with_reducible refine gate_store (t := 2) (p := 54) rfl ?_); refine store_event (t := 2) (p := 54) (v := ?vo_w28) (w1 := (wr.setCell ⟨go25, 1, none⟩ (.int .i64 x20_2))) ?hg ?ho ?hn ?hr ?_; (case ho => rfl); (case hg => rfl); (case hn => rfl); (case hr => first | (go_simp; done) | (go_simp; rfl)); intro w28 hw; have hg : wr.grownBy w28 (some go25) := (by rw [hw]; exact HP27.2); have hz_ : Kd.R (Kd.int .i64) 2 w28 w.heap.size oki27 (.slice (some ⟨go25, 0, none⟩) (rd_L3 x6_2 (ji21)).length c181_0) y182 := (by rw [hw, Ny182.out]; exact HP27.1); have hp_ : Kd.S (Kd.slice 2 (Kd.int .i64)) 24 w28 w.heap.size (fun _ => True) (.slice (some ad181) x6_2.length co26) y184 := (by rw [Ny184.out]; exact hbk27 hg (fun k_ e_ => by injection e_ with e_; subst e_; exact ge27_0.1 _ rfl) (Kd.M_row hz_)); have hm_ := Kd.R_mono hz_ hok27; clear HP27 hbk27; have n0_ := Aside0.mk (hp_); have n1_ := Aside0.mk ((by rw [hw]; exact below_set (HB.out) GB25.out : Below w.heap.size w w28)); have n2_ := Aside0.mk (hm_); have n3_ := Aside0.mk ((Kd.R_reads' hm_).2.1); clear HO_6; clear HB; clear HL181_0; have HO_6 := n0_; have HB := n1_; have HL197 := n2_; have HC183 := n3_; clear n0_ n1_ n2_ n3_; clear hg hw hp_ hz_ hm_ hok27))
                                  go_roundg k2
                                  case measure => have := HJ2.out; have := HK2.out; omega
                                  case rel => exact ⟨(y184), (wrap64 (x20_2 + 1)), (by first | rfl | (simp; done) | (simp [*]; done) | (simp [Int.tdiv_eq_ediv_of_nonneg, *]; done)), H', ⟨by have := HJ2.out; have := HK2.out; omega⟩, ⟨by (with_reducible repeat (first | apply Kd.S_alloc | apply Kd.S_drewN | apply Kd.S_drew)); exact HO_6.out⟩, ⟨by repeat (first | (with_reducible first | exact HB.out | apply below_alloc | apply pw_below_drewN | apply below_drew1) | exact HB.out)⟩⟩
                                · rw [if_neg c24] at H
                                  exact absurd H (by simp)
                              · rw [if_neg c23] at H
                                exact absurd H (by simp)
                            · rw [if_neg c22] at H
                              exact absurd H (by simp)
                          · rw [if_neg c20] at H
                            have c20b0 : decide (a1 ≤ (rd l0 (ji17))) = false := decide_eq_false c20
                            clear c20
                            obtain ⟨y185, hy185⟩ : ∃ y_ : List Int, y_ = (([x20_2, x20_2] : List Int)) := ⟨_, rfl⟩
                            replace H : (if x6_2.length < 5864062014805 then (impl_StretchesAt.l0 k2 l0 a1 (x6_2 ++ [y185]) l0 (l0.length : Int) (wrap64 (x20_2 + 1))) else (none)) = some (r1, r2) := by first | (rw [hy185]; with_reducible exact H) | (have H2_ := (Option.bind_some _ _).symm.trans H; rw [hy185]; with_reducible exact H2_) | (have H2_ := (Option.bind_some _ _).symm.trans H; with_reducible exact H2_) | with_reducible exact H | (rw [hy185]; exact H) | exact H
                            have Ny185 := Aside0.mk hy185
                            clear hy185
                            by_cases c29 : x6_2.length < 5864062014805
                            · rw [if_pos c29] at H
                              have LMc29 := Aside0.mk c29
                              clear c29
                              obtain ⟨y188, hy188⟩ : ∃ y_ : List (List Int), y_ = (x6_2 ++ [y185]) := ⟨_, rfl⟩
                              replace H : (impl_StretchesAt.l0 k2 l0 a1 y188 l0 (l0.length : Int) (wrap64 (x20_2 + 1))) = some (r1, r2) := by first | (rw [hy188]; with_reducible exact H) | (have H2_ := (Option.bind_some _ _).symm.trans H; rw [hy188]; with_reducible exact H2_) | (have H2_ := (Option.bind_some _ _).symm.trans H; with_reducible exact H2_) | with_reducible exact H | (rw [hy188]; exact H) | exact H
                              have Ny188 := Aside0.mk hy188
                              clear hy188
                              have H' := Aside0.mk H
                              clear H
                              have p179 : 0 ≤ (x20_2 : Int) := of_decide_eq_true (by first | (with_reducible assumption) | assumption)
                              have q179 : x20_2 < (l0.length : Int) := of_decide_eq_true (by first | (with_reducible assumption) | assumption)
                              obtain ⟨ad179, e179, hx179_0⟩ := Kd.at_int HR0.out x20_2 p179 q179
                              cases e179
                              replace hx179_0 := (HB.out.cell (World.block_lt_of_cell? w _ hx179_0)).trans hx179_0
                              replace p179 := eq_true p179
                              replace q179 := eq_true q179
                              have p180 : 0 ≤ ((ji17) : Int) := of_decide_eq_true (by first | (with_reducible assumption) | assumption)
                              have q180 : (ji17) < (l0.length : Int) := of_decide_eq_true (by first | (with_reducible assumption) | assumption)
                              obtain ⟨ad180, e180, hx180_0⟩ := Kd.at_int HR0.out (ji17) p180 q180
                              obtain rfl : ad179 = ad180 := (by injection e180)
                              replace hx180_0 := (HB.out.cell (World.block_lt_of_cell? w _ hx180_0)).trans hx180_0
                              replace p180 := eq_true p180
                              replace q180 := eq_true q180
                              go_wp2_with (first | ((with_reducible refine gate_dst (N := 28) rfl ?_); refine Kd.R_lit (Kd.int .i64) _ 2 ?hg (N := 28) ?hd (xs := ([x20_2, x20_2] : List Int)) (inner := [.int .i64 x20_2, .int .i64 x20_2]) (ok := fun _ => True) (okp := fun _ => True) ?hr ?hp (fun _ hk => hk) trivial (Below.refl _ _) (Nat.le_refl _) (by simp) ?_; (case hd => rfl); (case hg => rfl); (case hr => first | (go_simp; done) | (go_simp; rfl)); (case hp => exact (Reps.one (show Kd.M (Kd.int .i64) _ _ _ x20_2 [.int .i64 x20_2] from rfl) (Reps.one (show Kd.M (Kd.int .i64) _ _ _ x20_2 [.int .i64 x20_2] from rfl) (Reps.none _ _)))); intro v186 w30 ho31 hb hg_ hnew_; clear hg_ hnew_; (first | rw [← Ny185.out] at ho31 | (simp only [Int.reduceToNat] at ho31; rw [← Ny185.out] at ho31)); have n0_ := Aside0.mk (Kd.S_elder' (by (with_reducible repeat (first | apply Kd.S_alloc | apply Kd.S_drewN | apply Kd.S_drew)); exact HO_6.out) (Kd.R_base ho31) hb); have n1_ := Aside0.mk (Kd.R_lower ho31 (below_size (by repeat (first | (with_reducible first | exact HB.out | apply below_alloc | apply pw_below_drewN | apply below_drew1) | exact HB.out)))); have n2_ := Aside0.mk (below_step (by repeat (first | (with_reducible first | exact HB.out | apply below_alloc | apply pw_below_drewN | apply below_drew1) | exact HB.out)) hb); clear HO_6; clear HB; have HO_6 := n0_; have HO187 := n1_; have HB := n2_; clear n0_ n1_ n2_; clear hb ho31; obtain ⟨Ao33, co33, eo33⟩ := Kd.R_slice HO187.out; subst eo33) | ((with_reducible refine gate_builtin (b := .append) (xs := #[.tmp 25, .tmp 29]) rfl ?_); at_builtin; refine Kd.S_append (Kd.slice 2 (Kd.int .i64)) (w0 := w) w.heap.size rfl (.tmp 25) (.tmp 29) 31 24 (.slice none 0 0) 24 rfl Try.underlying31 info24 rfl (by decide) (by omega) u6 x6_2 y185 [.slice Ao33 y185.length co33] (fun _ => True) (fun k_ => some k_ = (.slice Ao33 y185.length co33 : Value).ownBlock) rfl rfl ?aP (fun k_ hk_ => ((Kd.R_mono (ok' := fun k_ => ((fun _ => True)) k_ ∧ some k_ ≠ (u6 : Value).ownBlock) (Kd.R_apart' (HO187.out) (Kd.S_typed HO_6.out) (by decide)) (fun k_ hk => ⟨trivial, hk.2⟩))).1 k_ hk_.symm) ?aF ?aO ?aB ?aS ?aL ?_; (case aP => exact Kd.M_row (Kd.R_mono (Kd.R_tight rfl (Kd.R_mono (ok' := fun k_ => ((fun _ => True)) k_ ∧ some k_ ≠ (u6 : Value).ownBlock) (Kd.R_apart' (HO187.out) (Kd.S_typed HO_6.out) (by decide)) (fun k_ hk => ⟨trivial, hk.2⟩))) (fun _ h_ => h_))); (case aB => exact (by repeat (first | (with_reducible first | exact HB.out | apply below_alloc | apply pw_below_drewN | apply below_drew1) | exact HB.out))); (case aF => exact (fun _ _ => trivial)); (case aO => exact (by (with_reducible repeat (first | apply Kd.S_alloc | apply Kd.S_drewN | apply Kd.S_drew)); exact Kd.S_mono HO_6.out (fun k_ hk => ⟨trivial, fun e_ => hk.2 e_⟩))); (case aS => exact (below_size (by repeat (first | (with_reducible first | exact HB.out | apply below_alloc | apply pw_below_drewN | apply below_drew1) | exact HB.out)))); (case aL => have := LMc29.out; omega); intro v189 w32 ho hb hg hat; rw [← Ny188.out] at ho; have n0_ := Aside0.mk (hb); have n1_ := Aside0.mk (ho); clear HB; clear HO_6; clear HO187; have HB := n0_; have HO190 := n1_; clear n0_ n1_; clear ho hb hg hat))
                              go_roundg k2
                              case measure => have := HJ2.out; have := HK2.out; omega
                              case rel => exact ⟨(y188), (wrap64 (x20_2 + 1)), (by first | rfl | (simp; done) | (simp [*]; done) | (simp [Int.tdiv_eq_ediv_of_nonneg, *]; done)), H', ⟨by have := HJ2.out; have := HK2.out; omega⟩, ⟨by (with_reducible repeat (first | apply Kd.S_alloc | apply Kd.S_drewN | apply Kd.S_drew)); exact HO190.out⟩, ⟨by repeat (first | (with_reducible first | exact HB.out | apply below_alloc | apply pw_below_drewN | apply below_drew1) | exact HB.out)⟩⟩
                            · rw [if_neg c29] at H
                              exact absurd H (by simp)
                        · rw [if_neg c19] at H
                          exact absurd H (by simp)
                      · rw [if_neg c18] at H
                        exact absurd H (by simp)
                    · rw [if_neg c16] at H
                      have c16b0 : decide (0 < x20_2) = false := decide_eq_false c16
                      clear c16
                      obtain ⟨y191, hy191⟩ : ∃ y_ : List Int, y_ = (([x20_2, x20_2] : List Int)) := ⟨_, rfl⟩
                      replace H : (if x6_2.length < 5864062014805 then (impl_StretchesAt.l0 k2 l0 a1 (x6_2 ++ [y191]) l0 (l0.length : Int) (wrap64 (x20_2 + 1))) else (none)) = some (r1, r2) := by first | (rw [hy191]; with_reducible exact H) | (have H2_ := (Option.bind_some _ _).symm.trans H; rw [hy191]; with_reducible exact H2_) | (have H2_ := (Option.bind_some _ _).symm.trans H; with_reducible exact H2_) | with_reducible exact H | (rw [hy191]; exact H) | exact H
                      have Ny191 := Aside0.mk hy191
                      clear hy191
                      by_cases c34 : x6_2.length < 5864062014805
                      · rw [if_pos c34] at H
                        have LMc34 := Aside0.mk c34
                        clear c34
                        obtain ⟨y194, hy194⟩ : ∃ y_ : List (List Int), y_ = (x6_2 ++ [y191]) := ⟨_, rfl⟩
                        replace H : (impl_StretchesAt.l0 k2 l0 a1 y194 l0 (l0.length : Int) (wrap64 (x20_2 + 1))) = some (r1, r2) := by first | (rw [hy194]; with_reducible exact H) | (have H2_ := (Option.bind_some _ _).symm.trans H; rw [hy194]; with_reducible exact H2_) | (have H2_ := (Option.bind_some _ _).symm.trans H; with_reducible exact H2_) | with_reducible exact H | (rw [hy194]; exact H) | exact H
                        have Ny194 := Aside0.mk hy194
                        clear hy194
                        have H' := Aside0.mk H
                        clear H
                        have p179 : 0 ≤ (x20_2 : Int) := of_decide_eq_true (by first | (with_reducible assumption) | assumption)
                        have q179 : x20_2 < (l0.length : Int) := of_decide_eq_true (by first | (with_reducible assumption) | assumption)
                        obtain ⟨ad179, e179, hx179_0⟩ := Kd.at_int HR0.out x20_2 p179 q179
                        cases e179
                        replace hx179_0 := (HB.out.cell (World.block_lt_of_cell? w _ hx179_0)).trans hx179_0
                        replace p179 := eq_true p179
                        replace q179 := eq_true q179
                        go_wp2_with (first | ((with_reducible refine gate_dst (N := 28) rfl ?_); refine Kd.R_lit (Kd.int .i64) _ 2 ?hg (N := 28) ?hd (xs := ([x20_2, x20_2] : List Int)) (inner := [.int .i64 x20_2, .int .i64 x20_2]) (ok := fun _ => True) (okp := fun _ => True) ?hr ?hp (fun _ hk => hk) trivial (Below.refl _ _) (Nat.le_refl _) (by simp) ?_; (case hd => rfl); (case hg => rfl); (case hr => first | (go_simp; done) | (go_simp; rfl)); (case hp => exact (Reps.one (show Kd.M (Kd.int .i64) _ _ _ x20_2 [.int .i64 x20_2] from rfl) (Reps.one (show Kd.M (Kd.int .i64) _ _ _ x20_2 [.int .i64 x20_2] from rfl) (Reps.none _ _)))); intro v192 w35 ho36 hb hg_ hnew_; clear hg_ hnew_; (first | rw [← Ny191.out] at ho36 | (simp only [Int.reduceToNat] at ho36; rw [← Ny191.out] at ho36)); have n0_ := Aside0.mk (Kd.S_elder' (by (with_reducible repeat (first | apply Kd.S_alloc | apply Kd.S_drewN | apply Kd.S_drew)); exact HO_6.out) (Kd.R_base ho36) hb); have n1_ := Aside0.mk (Kd.R_lower ho36 (below_size (by repeat (first | (with_reducible first | exact HB.out | apply below_alloc | apply pw_below_drewN | apply below_drew1) | exact HB.out)))); have n2_ := Aside0.mk (below_step (by repeat (first | (with_reducible first | exact HB.out | apply below_alloc | apply pw_below_drewN | apply below_drew1) | exact HB.out)) hb); clear HO_6; clear HB; have HO_6 := n0_; have HO193 := n1_; have HB := n2_; clear n0_ n1_ n2_; clear hb ho36; obtain ⟨Ao38, co38, eo38⟩ := Kd.R_slice HO193.out; subst eo38) | ((with_reducible refine gate_builtin (b := .append) (xs := #[.tmp 25, .tmp 29]) rfl ?_); at_builtin; refine Kd.S_append (Kd.slice 2 (Kd.int .i64)) (w0 := w) w.heap.size rfl (.tmp 25) (.tmp 29) 31 24 (.slice none 0 0) 24 rfl Try.underlying31 info24 rfl (by decide) (by omega) u6 x6_2 y191 [.slice Ao38 y191.length co38] (fun _ => True) (fun k_ => some k_ = (.slice Ao38 y191.length co38 : Value).ownBlock) rfl rfl ?aP (fun k_ hk_ => ((Kd.R_mono (ok' := fun k_ => ((fun _ => True)) k_ ∧ some k_ ≠ (u6 : Value).ownBlock) (Kd.R_apart' (HO193.out) (Kd.S_typed HO_6.out) (by decide)) (fun k_ hk => ⟨trivial, hk.2⟩))).1 k_ hk_.symm) ?aF ?aO ?aB ?aS ?aL ?_; (case aP => exact Kd.M_row (Kd.R_mono (Kd.R_tight rfl (Kd.R_mono (ok' := fun k_ => ((fun _ => True)) k_ ∧ some k_ ≠ (u6 : Value).ownBlock) (Kd.R_apart' (HO193.out) (Kd.S_typed HO_6.out) (by decide)) (fun k_ hk => ⟨trivial, hk.2⟩))) (fun _ h_ => h_))); (case aB => exact (by repeat (first | (with_reducible first | exact HB.out | apply below_alloc | apply pw_below_drewN | apply below_drew1) | exact HB.out))); (case aF => exact (fun _ _ => trivial)); (case aO => exact (by (with_reducible repeat (first | apply Kd.S_alloc | apply Kd.S_drewN | apply Kd.S_drew)); exact Kd.S_mono HO_6.out (fun k_ hk => ⟨trivial, fun e_ => hk.2 e_⟩))); (case aS => exact (below_size (by repeat (first | (with_reducible first | exact HB.out | apply below_alloc | apply pw_below_drewN | apply below_drew1) | exact HB.out)))); (case aL => have := LMc34.out; omega); intro v195 w37 ho hb hg hat; rw [← Ny194.out] at ho; have n0_ := Aside0.mk (hb); have n1_ := Aside0.mk (ho); clear HB; clear HO_6; clear HO193; have HB := n0_; have HO196 := n1_; clear n0_ n1_; clear ho hb hg hat))
                        go_roundg k2
                        case measure => have := HJ2.out; have := HK2.out; omega
                        case rel => exact ⟨(y194), (wrap64 (x20_2 + 1)), (by first | rfl | (simp; done) | (simp [*]; done) | (simp [Int.tdiv_eq_ediv_of_nonneg, *]; done)), H', ⟨by have := HJ2.out; have := HK2.out; omega⟩, ⟨by (with_reducible repeat (first | apply Kd.S_alloc | apply Kd.S_drewN | apply Kd.S_drew)); exact HO196.out⟩, ⟨by repeat (first | (with_reducible first | exact HB.out | apply below_alloc | apply pw_below_drewN | apply below_drew1) | exact HB.out)⟩⟩
                      · rw [if_neg c34] at H
                        exact absurd H (by simp)
                · rw [if_neg c14] at H
                  exact absurd H (by simp)
              · rw [if_neg c13] at H
                exact absurd H (by simp)
            · rw [if_neg c12] at H
              have c12b0 : decide (x20_2 < (l0.length : Int)) = false := decide_eq_false c12
              clear c12
              simp only [Option.some.injEq, Prod.mk.injEq] at H
              obtain ⟨rfl, rfl⟩ := H
              go_wp2
              go_ret2
              exact ⟨_, by first | rfl | (simp [errW_none, errW_some] <;> rfl) | (simp [*, errW_none, errW_some] <;> rfl) | (simp [Int.tdiv_eq_ediv_of_nonneg, *]; done), by (with_reducible repeat (first | apply Kd.S_alloc | apply Kd.S_drewN | apply Kd.S_drew)); exact HO_6.out, by repeat (first | (with_reducible first | exact HB.out | apply below_alloc | apply pw_below_drewN | apply below_drew1) | exact HB.out)⟩

/-! ### impl_abs: function 78 -/
def impl_abs.f (a0 : Int) : Option (Int) := some (mx a0 (wrap64 (-a0)))
set_option maxHeartbeats 8000000 in
set_option maxRecDepth 100000 in
theorem impl_abs.calls (a0 : Int) (r : Int) (w : World) (h : impl_abs.f a0 = some r) :
    Calls Try.prog 78 #[.int .i64 a0] w fun e w' => e = .returned (.int .i64 r) ∧ Below w.heap.size w w' := by
  have HB := Aside0.mk (Below.refl w.heap.size w)
  have H : (some (mx a0 (wrap64 (-a0)))) = some r := h
  clear h
  obtain ⟨ji2, hji2⟩ : ∃ j_ : Int, (mx a0 (wrap64 (-a0))) = j_ := ⟨_, rfl⟩
  replace H : (some ji2) = some r := by first | (rw [hji2] at H; exact H) | (simp only [hji2] at H ⊢; exact H)
  have hji2_ : (if a0 < (wrap64 (-a0)) then (wrap64 (-a0)) else a0) = ji2 := hji2
  obtain rfl := Option.some.inj H
  go_enter Try.func78, Try.ntmps78
  go_wp2
  go_ret
  exact ⟨by first | rfl | (simp [errW_none, errW_some] <;> rfl) | (simp only [← hji2]; first | rfl | (simp [errW_none, errW_some] <;> rfl)) | (simp [*, errW_none, errW_some] <;> rfl) | (simp [Int.tdiv_eq_ediv_of_nonneg, *]; done), by repeat (first | (with_reducible first | exact HB.out | apply below_alloc | apply pw_below_drewN | apply below_drew1) | exact HB.out)⟩

/-! ### impl_SteepestOf: function 20 -/
def impl_SteepestOf.l0 : Nat → List Int → Int → Int → Int → Option (Int × Int × Bool)
  | 0, _, _, _, _ => none
  | k + 1, x0, x5, x6, x12 => if x12 < 23 then (if 0 ≤ x12 then (if x12 < (x0.length : Int) then (if 0 ≤ (wrap64 (x12 + 1)) then (if (wrap64 (x12 + 1)) < (x0.length : Int) then ((impl_abs.f (wrap64 ((rd x0 x12) - (rd x0 (wrap64 (x12 + 1)))))).bind fun t201 => (if t201 > x6 then (impl_SteepestOf.l0 k x0 x12 t201 (wrap64 (x12 + 1))) else (impl_SteepestOf.l0 k x0 x5 x6 (wrap64 (x12 + 1))))) else (none)) else (none)) else (none)) else (none)) else (some (x5, x6, true))
def impl_SteepestOf.f (k : Nat) (l0 : List Int) : Option (Int × Int × Bool) := (impl_isSettled.f l0).bind fun t198 => (if t198 = true then (impl_SteepestOf.l0 k l0 0 (-1) 0) else (some (0, 0, false)))
theorem impl_SteepestOf.mono_l : ∀ k, (∀ y0 y1 y2 y3, LeO (impl_SteepestOf.l0 k y0 y1 y2 y3) (impl_SteepestOf.l0 (k + 1) y0 y1 y2 y3))
  | 0 => fun _ _ _ _ r h => by simp [impl_SteepestOf.l0] at h
  | k + 1 => by
    have ih0 := impl_SteepestOf.mono_l k
    · intro y0 y1 y2 y3
      unfold impl_SteepestOf.l0
      repeat' first
      | (with_reducible exact ih0 _ _ _ _)
      | (with_reducible exact LeO.refl _)
      | (with_reducible exact LeO.none _)
      | (with_reducible refine LeO.ite ?_ ?_)
      | (with_reducible refine LeO.bind ?_ (fun _ => ?_))
      | exact ih0 _ _ _ _
      | exact LeO.none _
      | refine LeO.ite ?_ ?_
      | refine LeO.bind ?_ (fun _ => ?_)
theorem impl_SteepestOf.mono : ∀ a0 k, LeO (impl_SteepestOf.f k a0) (impl_SteepestOf.f (k + 1) a0) := by
  intro a0 k
  have ih0 := impl_SteepestOf.mono_l k
  unfold impl_SteepestOf.f
  repeat' first
      | (with_reducible exact ih0 _ _ _ _)
      | (with_reducible exact LeO.refl _)
      | (with_reducible exact LeO.none _)
      | (with_reducible refine LeO.ite ?_ ?_)
      | (with_reducible refine LeO.bind ?_ (fun _ => ?_))
      | exact ih0 _ _ _ _
      | exact LeO.none _
      | refine LeO.ite ?_ ?_
      | refine LeO.bind ?_ (fun _ => ?_)
def impl_SteepestOf.T7 : Bool × List (List Nat × List Nat) := (true, [([], []), ([], []), ([0, 1], [0, 1]), ([2], [2]), ([], []), ([], []), ([5], [5]), ([4, 6], [4, 6]), ([7], [7]), ([3, 8], [3, 8]), ([9], [9]), ([10, 10, 0, 1, 2, 3, 4, 5, 6, 7, 8, 9, 10], [10])])
def impl_SteepestOf.B7 : List Nat := [0, 0, 3, 7, 0, 0, 32, 112, 240, 511, 1023, 2047]
theorem impl_SteepestOf.tab7 : rtab .any (opsOf Try.f20 7) = impl_SteepestOf.T7 := by kernel_rfl
theorem impl_SteepestOf.bits7 : waitsOk impl_SteepestOf.T7.2 impl_SteepestOf.B7 = true := by kernel_rfl
set_option maxHeartbeats 8000000 in
set_option maxRecDepth 100000 in
theorem impl_SteepestOf.calls (k : Nat) (A0 : Option Addr) (c0 : Nat) (l0 : List Int) (r1 : Int) (r2 : Int) (r3 : Bool) (w : World) (hr0 : Kd.C (Kd.int .i64) w A0 l0.length l0) (hc0 : l0.length ≤ c0) (h : impl_SteepestOf.f k l0 = some (r1, r2, r3)) :
    Calls Try.prog 20 #[.slice A0 l0.length c0] w fun e w' => e = .returned (.tuple #[.int .i64 r1, .int .i64 r2, .bool r3]) ∧ Below w.heap.size w w' := by
  have HR0 := Aside0.mk hr0
  have HC0 := Aside0.mk hc0
  clear hr0 hc0
  have HB := Aside0.mk (Below.refl w.heap.size w)
  have H : ((impl_isSettled.f l0).bind fun t198 => (if t198 = true then (impl_SteepestOf.l0 k l0 0 (-1) 0) else (some (0, 0, false)))) = some (r1, r2, r3) := h
  clear h
  replace H := Option.bind_eq_some_iff.mp H
  obtain ⟨t198, A20, H⟩ := H
  replace H : (if t198 = true then (impl_SteepestOf.l0 k l0 0 (-1) 0) else (some (0, 0, false))) = some (r1, r2, r3) := H
  have A2 := Aside0.mk A20
  clear A20
  by_cases c3 : t198 = true
  · subst c3
    have H1 : (impl_SteepestOf.l0 k l0 0 (-1) 0) = some (r1, r2, r3) := by rw [if_pos rfl] at H; exact H
    clear H
    have H := H1
    clear H1
    have H' := Aside0.mk H
    clear H
    go_enter Try.func20, Try.ntmps20
    go_wp2_with (first | ((with_reducible refine gate_callee (f := 75) rfl ?_); refine goesL_ (some 10) rfl rfl Try.func75 (by kernel_rfl) rfl #[.slice A0 l0.length c0] rfl (by (try simp only [List.map_toArray, List.map_cons, List.map_nil]); first | done | rfl | (simp only [List.length_drop, List.length_take]; rfl)) ?_; (with_reducible refine (impl_isSettled.calls _ _ l0 true _ ?side1 ?side2 A2.out).mono ?_); (case side1 => repeat (first | exact HR0.out | (with_reducible refine Kd.C_alloc ?_ _) | (with_reducible refine Kd.C_drewN ?_ _) | (with_reducible refine Kd.C_drew ?_))); (case side2 => exact HC0.out); rintro e w4 ⟨rfl, hb⟩; refine ⟨_, rfl, ?_⟩; have n0_ := Aside0.mk (below_step (by repeat (first | (with_reducible first | exact HB.out | apply below_alloc | apply pw_below_drewN | apply below_drew1) | exact HB.out)) hb); clear HB; have HB := n0_; clear n0_; (try clear hb); (try clear hb2); (try clear hk); (try clear hi)))
    go_loopg [5, 6, 12] k (fun kq v5 v6 v12 w' => ∃ (x5_1 : Int) (x6_1 : Int) (x12_1 : Int), v5 = .int .i64 x5_1 ∧ v6 = .int .i64 x6_1 ∧ v12 = .int .i64 x12_1 ∧ Aside0 (impl_SteepestOf.l0 kq l0 x5_1 x6_1 x12_1 = some (r1, r2, r3)) ∧ Aside0 (kq ≤ k) ∧ Aside0 (Below w.heap.size w w'))
    case atStart => exact ⟨(0), ((-1)), (0), (by first | rfl | (simp; done) | (simp [*]; done) | (simp [Int.tdiv_eq_ediv_of_nonneg, *]; done)), (by first | rfl | (simp; done) | (simp [*]; done) | (simp [Int.tdiv_eq_ediv_of_nonneg, *]; done)), (by first | rfl | (simp; done) | (simp [*]; done) | (simp [Int.tdiv_eq_ediv_of_nonneg, *]; done)), H', ⟨Nat.le_refl _⟩, ⟨by repeat (first | (with_reducible first | exact HB.out | apply below_alloc | apply pw_below_drewN | apply below_drew1) | exact HB.out)⟩⟩
    case round =>
      clear H'
      try clear c2
      try clear p2
      try clear c3
      obtain ⟨x5_1, x6_1, x12_1, rfl, rfl, rfl, HA, HK1, HB⟩ := hrel
      cases gk with
      | zero => exact absurd HA.out (by simp [impl_SteepestOf.l0])
      | succ k1 =>
        have H := HA.out
        clear HA
        simp only [impl_SteepestOf.l0] at H
        by_cases c5 : x12_1 < 23
        · rw [if_pos c5] at H
          have c5b0 : decide (x12_1 < 23) = true := decide_eq_true c5
          clear c5
          by_cases c6 : 0 ≤ x12_1
          · rw [if_pos c6] at H
            have c6b0 : decide (0 ≤ x12_1) = true := decide_eq_true c6
            clear c6
            by_cases c7 : x12_1 < (l0.length : Int)
            · rw [if_pos c7] at H
              have c7b0 : decide (x12_1 < (l0.length : Int)) = true := decide_eq_true c7
              clear c7
              obtain ⟨ji8, hji8⟩ : ∃ j_ : Int, (wrap64 (x12_1 + 1)) = j_ := ⟨_, rfl⟩
              replace H : (if 0 ≤ (ji8) then (if (ji8) < (l0.length : Int) then ((impl_abs.f (wrap64 ((rd l0 x12_1) - (rd l0 (ji8))))).bind fun t201 => (if t201 > x6_1 then (impl_SteepestOf.l0 k1 l0 x12_1 t201 ji8) else (impl_SteepestOf.l0 k1 l0 x5_1 x6_1 ji8))) else (none)) else (none)) = some (r1, r2, r3) := by first | (rw [hji8] at H; exact H) | (simp only [hji8] at H ⊢; exact H)
              have hji8w : (IntKind.i64.wrap (x12_1 + 1)) = ji8 := (i64_w _).trans hji8
              by_cases c9 : 0 ≤ (ji8)
              · rw [if_pos c9] at H
                have c9b0 : decide (0 ≤ (ji8)) = true := decide_eq_true c9
                clear c9
                by_cases c10 : (ji8) < (l0.length : Int)
                · rw [if_pos c10] at H
                  have c10b0 : decide ((ji8) < (l0.length : Int)) = true := decide_eq_true c10
                  clear c10
                  replace H := Option.bind_eq_some_iff.mp H
                  obtain ⟨t201, A110, H⟩ := H
                  replace H : (if t201 > x6_1 then (impl_SteepestOf.l0 k1 l0 x12_1 t201 ji8) else (impl_SteepestOf.l0 k1 l0 x5_1 x6_1 ji8)) = some (r1, r2, r3) := H
                  have A11 := Aside0.mk A110
                  clear A110
                  by_cases c12 : t201 > x6_1
                  · rw [if_pos c12] at H
                    have c12b0 : decide (x6_1 < t201) = true := decide_eq_true c12
                    clear c12
                    have H' := Aside0.mk H
                    clear H
                    try go_wp2
                    have n0_ := Aside0.mk (below_drew1 HB.out)
                    clear HB
                    have HB := n0_
                    clear n0_
                    have p199 : 0 ≤ (x12_1 : Int) := of_decide_eq_true (by first | (with_reducible assumption) | assumption)
                    have q199 : x12_1 < (l0.length : Int) := of_decide_eq_true (by first | (with_reducible assumption) | assumption)
                    obtain ⟨ad199, e199, hx199_0⟩ := Kd.at_int HR0.out x12_1 p199 q199
                    have hw199_0 := hx199_0
                    cases e199
                    replace hx199_0 := (HB.out.cell (World.block_lt_of_cell? w _ hx199_0)).trans hx199_0
                    replace p199 := eq_true p199
                    replace q199 := eq_true q199
                    have p200 : 0 ≤ ((ji8) : Int) := of_decide_eq_true (by first | (with_reducible assumption) | assumption)
                    have q200 : (ji8) < (l0.length : Int) := of_decide_eq_true (by first | (with_reducible assumption) | assumption)
                    obtain ⟨ad200, e200, hx200_0⟩ := Kd.at_int HR0.out (ji8) p200 q200
                    have hw200_0 := hx200_0
                    obtain rfl : ad199 = ad200 := (by injection e200)
                    replace hx200_0 := (HB.out.cell (World.block_lt_of_cell? w _ hx200_0)).trans hx200_0
                    replace p200 := eq_true p200
                    replace q200 := eq_true q200
                    refine start_ (n := 12) (S := fun w' => w'.cell? (ad199.add (x12_1).toNat) = some (.int .i64 (rd l0 x12_1)) ∧ w'.cell? (ad199.add ((ji8)).toNat) = some (.int .i64 (rd l0 (ji8)))) (ds := []) #[false, false, false, false, false, false, false, false, false, false, false, false] (by kernel_rfl) rfl rfl ⟨((HB.out.cell (World.block_lt_of_cell? w _ hw199_0)).trans hw199_0), ((HB.out.cell (World.block_lt_of_cell? w _ hw200_0)).trans hw200_0)⟩ (fun hHeld => ?_); refine with_tabW impl_SteepestOf.tab7 impl_SteepestOf.bits7 (fun HT_ HW_ => ?_)
                    generalize wr.drew = w13 at HB hx199_0 hx200_0 hHeld ⊢
                    refine pure_ (i := 0) (N := some 15) (v := ?_) (a' := ?_) #[true, false, false, false, false, false, false, false, false, false, false, false] rfl rfl (any_of HT_.out (by kernel_rfl)) (fun _ _ _ h => h) (Or.inl ⟨by rfl, ?_⟩) ?_ ?_
                    rotate_left
                    · intro w'
                      go_simp
                      with_reducible rfl
                    rotate_left
                    · simp only [Act.put, List.setIfInBounds_toArray, List.set_cons_zero, List.set_cons_succ, i64_w, i32_w]
                      rfl
                    refine pure_ (i := 1) (N := some 16) (v := ?_) (a' := ?_) #[true, true, false, false, false, false, false, false, false, false, false, false] rfl rfl (any_of HT_.out (by kernel_rfl)) (fun _ _ _ h => h) (Or.inl ⟨by rfl, ?_⟩) ?_ ?_
                    rotate_left
                    · intro w'
                      go_simp
                      with_reducible rfl
                    rotate_left
                    · simp only [Act.put, List.setIfInBounds_toArray, List.set_cons_zero, List.set_cons_succ, i64_w, i32_w]
                      rfl
                    refine pure_ (i := 2) (N := some 17) (v := ?_) (a' := ?_) #[true, true, true, false, false, false, false, false, false, false, false, false] rfl rfl (any_of HT_.out (by kernel_rfl)) (fun _ _ _ h => h) (Or.inl ⟨by rfl, ?_⟩) ?_ ?_
                    rotate_left
                    · intro w'
                      go_simp
                      with_reducible rfl
                    rotate_left
                    · simp only [Act.put, List.setIfInBounds_toArray, List.set_cons_zero, List.set_cons_succ, i64_w, i32_w]
                      rfl
                    refine pure_ (i := 4) (N := some 19) (v := ?_) (a' := ?_) #[true, true, true, false, true, false, false, false, false, false, false, false] rfl rfl (any_of HT_.out (by kernel_rfl)) (fun _ _ _ h => h) (Or.inl ⟨by rfl, ?_⟩) ?_ ?_
                    rotate_left
                    · intro w'
                      go_simp
                      with_reducible rfl
                    rotate_left
                    · simp only [Act.put, List.setIfInBounds_toArray, List.set_cons_zero, List.set_cons_succ, i64_w, i32_w]
                      rfl
                    refine pure_ (i := 5) (N := some 20) (v := ?_) (a' := ?_) #[true, true, true, false, true, true, false, false, false, false, false, false] rfl rfl (any_of HT_.out (by kernel_rfl)) (fun _ _ _ h => h) (Or.inl ⟨by rfl, ?_⟩) ?_ ?_
                    rotate_left
                    · intro w'
                      go_simp
                      with_reducible rfl
                    rotate_left
                    · simp only [Act.put, List.setIfInBounds_toArray, List.set_cons_zero, List.set_cons_succ, i64_w, i32_w]
                      rfl
                    refine pure_ (i := 6) (N := some 21) (v := ?_) (a' := ?_) #[true, true, true, false, true, true, true, false, false, false, false, false] rfl rfl (any_of HT_.out (by kernel_rfl)) (fun _ _ _ h => h) (Or.inl ⟨by rfl, ?_⟩) ?_ ?_
                    rotate_left
                    · intro w'
                      go_simp
                      with_reducible rfl
                    rotate_left
                    · simp only [Act.put, List.setIfInBounds_toArray, List.set_cons_zero, List.set_cons_succ, i64_w, i32_w]
                      rfl
                    refine pure_ (i := 7) (N := some 22) (v := ?_) (a' := ?_) #[true, true, true, false, true, true, true, true, false, false, false, false] rfl rfl (any_of HT_.out (by kernel_rfl)) (fun _ _ _ h => h) (Or.inl ⟨by rfl, ?_⟩) ?_ ?_
                    rotate_left
                    · intro w'
                      go_simp
                      with_reducible rfl
                    rotate_left
                    · simp only [Act.put, List.setIfInBounds_toArray, List.set_cons_zero, List.set_cons_succ, i64_w, i32_w]
                      rfl
                    refine take_ (i := 3) (N := some 18) (v := ?_) (a' := ?_) #[true, true, true, true, true, true, true, true, false, false, false, false] rfl rfl (take_ofW HT_.out HW_.out (by kernel_rfl)) (fun _ _ _ h => h) (Or.inl ⟨by rfl, ?_⟩) hHeld ?_ ?_
                    rotate_left
                    · rintro w' ⟨s0, s1⟩
                      go_simp
                      with_reducible rfl
                    rotate_left
                    · simp only [Act.put, List.setIfInBounds_toArray, List.set_cons_zero, List.set_cons_succ, i64_w, i32_w]
                      rfl
                    refine take_ (i := 8) (N := some 23) (v := ?_) (a' := ?_) #[true, true, true, true, true, true, true, true, true, false, false, false] rfl rfl (take_ofW HT_.out HW_.out (by kernel_rfl)) (fun _ _ _ h => h) (Or.inl ⟨by rfl, ?_⟩) hHeld ?_ ?_
                    rotate_left
                    · rintro w' ⟨s0, s1⟩
                      go_simp
                      with_reducible rfl
                    rotate_left
                    · simp only [Act.put, List.setIfInBounds_toArray, List.set_cons_zero, List.set_cons_succ, i64_w, i32_w]
                      rfl
                    refine pure_ (i := 9) (N := some 24) (v := ?_) (a' := ?_) #[true, true, true, true, true, true, true, true, true, true, false, false] rfl rfl (any_of HT_.out (by kernel_rfl)) (fun _ _ _ h => h) (Or.inl ⟨by rfl, ?_⟩) ?_ ?_
                    rotate_left
                    · intro w'
                      go_simp
                      with_reducible rfl
                    rotate_left
                    · simp only [Act.put, List.setIfInBounds_toArray, List.set_cons_zero, List.set_cons_succ, i64_w, i32_w]
                      rfl
                    refine one_ (i := 10) (N := some 25) #[true, true, true, true, true, true, true, true, true, true, true, false] rfl rfl (one_of HT_.out (by kernel_rfl)) (by decide) (fun K hK => ?_)
                    refine goes_ Try.func78 (by kernel_rfl) rfl #[.int .i64 (wrap64 ((rd l0 x12_1) - (rd l0 (ji8))))] (by rfl) rfl rfl (by (try simp only [List.map_toArray, List.map_cons, List.map_nil]); first | done | (simp only [hji8]; rfl) | rfl | (simp only [List.length_drop, List.length_take]; rfl)) ?_
                    with_reducible refine (impl_abs.calls (wrap64 ((rd l0 x12_1) - (rd l0 (ji8)))) t201 _ A11.out).mono ?_
                    rintro e w14 ⟨rfl, hb⟩
                    refine ⟨_, rfl, ?_⟩
                    have n0_ := Aside0.mk (below_step (by repeat (first | (with_reducible first | exact HB.out | apply below_alloc | apply pw_below_drewN | apply below_drew1) | exact HB.out)) hb)
                    clear HB
                    have HB := n0_
                    clear n0_
                    (try clear hb)
                    (try clear hb2)
                    (try clear hk)
                    (try clear hi)
                    refine hK.out _ _ ⟨((HB.out.cell (World.block_lt_of_cell? w _ hw199_0)).trans hw199_0), ((HB.out.cell (World.block_lt_of_cell? w _ hw200_0)).trans hw200_0)⟩ (fun hHeld => ?_)
                    clear hK K
                    refine norm_ (a' := ?_) ?_ ?_
                    rotate_left
                    · show Act.put _ (some 25) _ = _
                      simp only [Act.put, List.setIfInBounds_toArray, List.set_cons_zero, List.set_cons_succ, i64_w, i32_w]
                      rfl
                    refine pure_ (i := 11) (N := some 8) (v := ?_) (a' := ?_) #[true, true, true, true, true, true, true, true, true, true, true, true] rfl rfl (any_of HT_.out (by kernel_rfl)) (fun _ _ _ h => h) (Or.inl ⟨by rfl, ?_⟩) ?_ ?_
                    rotate_left
                    · intro w'
                      go_simp
                      with_reducible rfl
                    rotate_left
                    · simp only [Act.put, List.setIfInBounds_toArray, List.set_cons_zero, List.set_cons_succ, i64_w, i32_w]
                      rfl
                    refine done_ (done_of HT_.out (by kernel_rfl)) ?_
                    try go_wp2
                    go_roundg k1
                    case measure => have := HK1.out; omega
                    case rel => exact ⟨(x12_1), (t201), (ji8), (by first | rfl | (simp; done) | (simp [*]; done) | (simp [Int.tdiv_eq_ediv_of_nonneg, *]; done)), (by first | rfl | (simp; done) | (simp [*]; done) | (simp [Int.tdiv_eq_ediv_of_nonneg, *]; done)), (by first | rfl | (simp; done) | (simp only [← hji8] <;> (first | rfl | simp)) | (simp [*]; done)), H', ⟨by have := HK1.out; omega⟩, ⟨by repeat (first | (with_reducible first | exact HB.out | apply below_alloc | apply pw_below_drewN | apply below_drew1) | exact HB.out)⟩⟩
                  · rw [if_neg c12] at H
                    have c12b0 : decide (x6_1 < t201) = false := decide_eq_false c12
                    clear c12
                    have H' := Aside0.mk H
                    clear H
                    try go_wp2
                    have n0_ := Aside0.mk (below_drew1 HB.out)
                    clear HB
                    have HB := n0_
                    clear n0_
                    have p199 : 0 ≤ (x12_1 : Int) := of_decide_eq_true (by first | (with_reducible assumption) | assumption)
                    have q199 : x12_1 < (l0.length : Int) := of_decide_eq_true (by first | (with_reducible assumption) | assumption)
                    obtain ⟨ad199, e199, hx199_0⟩ := Kd.at_int HR0.out x12_1 p199 q199
                    have hw199_0 := hx199_0
                    cases e199
                    replace hx199_0 := (HB.out.cell (World.block_lt_of_cell? w _ hx199_0)).trans hx199_0
                    replace p199 := eq_true p199
                    replace q199 := eq_true q199
                    have p200 : 0 ≤ ((ji8) : Int) := of_decide_eq_true (by first | (with_reducible assumption) | assumption)
                    have q200 : (ji8) < (l0.length : Int) := of_decide_eq_true (by first | (with_reducible assumption) | assumption)
                    obtain ⟨ad200, e200, hx200_0⟩ := Kd.at_int HR0.out (ji8) p200 q200
                    have hw200_0 := hx200_0
                    obtain rfl : ad199 = ad200 := (by injection e200)
                    replace hx200_0 := (HB.out.cell (World.block_lt_of_cell? w _ hx200_0)).trans hx200_0
                    replace p200 := eq_true p200
                    replace q200 := eq_true q200
                    refine start_ (n := 12) (S := fun w' => w'.cell? (ad199.add (x12_1).toNat) = some (.int .i64 (rd l0 x12_1)) ∧ w'.cell? (ad199.add ((ji8)).toNat) = some (.int .i64 (rd l0 (ji8)))) (ds := []) #[false, false, false, false, false, false, false, false, false, false, false, false] (by kernel_rfl) rfl rfl ⟨((HB.out.cell (World.block_lt_of_cell? w _ hw199_0)).trans hw199_0), ((HB.out.cell (World.block_lt_of_cell? w _ hw200_0)).trans hw200_0)⟩ (fun hHeld => ?_); refine with_tabW impl_SteepestOf.tab7 impl_SteepestOf.bits7 (fun HT_ HW_ => ?_)
                    generalize wr.drew = w15 at HB hx199_0 hx200_0 hHeld ⊢
                    refine pure_ (i := 0) (N := some 15) (v := ?_) (a' := ?_) #[true, false, false, false, false, false, false, false, false, false, false, false] rfl rfl (any_of HT_.out (by kernel_rfl)) (fun _ _ _ h => h) (Or.inl ⟨by rfl, ?_⟩) ?_ ?_
                    rotate_left
                    · intro w'
                      go_simp
                      with_reducible rfl
                    rotate_left
                    · simp only [Act.put, List.setIfInBounds_toArray, List.set_cons_zero, List.set_cons_succ, i64_w, i32_w]
                      rfl
                    refine pure_ (i := 1) (N := some 16) (v := ?_) (a' := ?_) #[true, true, false, false, false, false, false, false, false, false, false, false] rfl rfl (any_of HT_.out (by kernel_rfl)) (fun _ _ _ h => h) (Or.inl ⟨by rfl, ?_⟩) ?_ ?_
                    rotate_left
                    · intro w'
                      go_simp
                      with_reducible rfl
                    rotate_left
                    · simp only [Act.put, List.setIfInBounds_toArray, List.set_cons_zero, List.set_cons_succ, i64_w, i32_w]
                      rfl
                    refine pure_ (i := 2) (N := some 17) (v := ?_) (a' := ?_) #[true, true, true, false, false, false, false, false, false, false, false, false] rfl rfl (any_of HT_.out (by kernel_rfl)) (fun _ _ _ h => h) (Or.inl ⟨by rfl, ?_⟩) ?_ ?_
                    rotate_left
                    · intro w'
                      go_simp
                      with_reducible rfl
                    rotate_left
                    · simp only [Act.put, List.setIfInBounds_toArray, List.set_cons_zero, List.set_cons_succ, i64_w, i32_w]
                      rfl
                    refine pure_ (i := 4) (N := some 19) (v := ?_) (a' := ?_) #[true, true, true, false, true, false, false, false, false, false, false, false] rfl rfl (any_of HT_.out (by kernel_rfl)) (fun _ _ _ h => h) (Or.inl ⟨by rfl, ?_⟩) ?_ ?_
                    rotate_left
                    · intro w'
                      go_simp
                      with_reducible rfl
                    rotate_left
                    · simp only [Act.put, List.setIfInBounds_toArray, List.set_cons_zero, List.set_cons_succ, i64_w, i32_w]
                      rfl
                    refine pure_ (i := 5) (N := some 20) (v := ?_) (a' := ?_) #[true, true, true, false, true, true, false, false, false, false, false, false] rfl rfl (any_of HT_.out (by kernel_rfl)) (fun _ _ _ h => h) (Or.inl ⟨by rfl, ?_⟩) ?_ ?_
                    rotate_left
                    · intro w'
                      go_simp
                      with_reducible rfl
                    rotate_left
                    · simp only [Act.put, List.setIfInBounds_toArray, List.set_cons_zero, List.set_cons_succ, i64_w, i32_w]
                      rfl
                    refine pure_ (i := 6) (N := some 21) (v := ?_) (a' := ?_) #[true, true, true, false, true, true, true, false, false, false, false, false] rfl rfl (any_of HT_.out (by kernel_rfl)) (fun _ _ _ h => h) (Or.inl ⟨by rfl, ?_⟩) ?_ ?_
                    rotate_left
                    · intro w'
                      go_simp
                      with_reducible rfl
                    rotate_left
                    · simp only [Act.put, List.setIfInBounds_toArray, List.set_cons_zero, List.set_cons_succ, i64_w, i32_w]
                      rfl
                    refine pure_ (i := 7) (N := some 22) (v := ?_) (a' := ?_) #[true, true, true, false, true, true, true, true, false, false, false, false] rfl rfl (any_of HT_.out (by kernel_rfl)) (fun _ _ _ h => h) (Or.inl ⟨by rfl, ?_⟩) ?_ ?_
                    rotate_left
                    · intro w'
                      go_simp
                      with_reducible rfl
                    rotate_left
                    · simp only [Act.put, List.setIfInBounds_toArray, List.set_cons_zero, List.set_cons_succ, i64_w, i32_w]
                      rfl
                    refine take_ (i := 3) (N := some 18) (v := ?_) (a' := ?_) #[true, true, true, true, true, true, true, true, false, false, false, false] rfl rfl (take_ofW HT_.out HW_.out (by kernel_rfl)) (fun _ _ _ h => h) (Or.inl ⟨by rfl, ?_⟩) hHeld ?_ ?_
                    rotate_left
                    · rintro w' ⟨s0, s1⟩
                      go_simp
                      with_reducible rfl
                    rotate_left
                    · simp only [Act.put, List.setIfInBounds_toArray, List.set_cons_zero, List.set_cons_succ, i64_w, i32_w]
                      rfl
                    refine take_ (i := 8) (N := some 23) (v := ?_) (a' := ?_) #[true, true, true, true, true, true, true, true, true, false, false, false] rfl rfl (take_ofW HT_.out HW_.out (by kernel_rfl)) (fun _ _ _ h => h) (Or.inl ⟨by rfl, ?_⟩) hHeld ?_ ?_
                    rotate_left
                    · rintro w' ⟨s0, s1⟩
                      go_simp
                      with_reducible rfl
                    rotate_left
                    · simp only [Act.put, List.setIfInBounds_toArray, List.set_cons_zero, List.set_cons_succ, i64_w, i32_w]
                      rfl
                    refine pure_ (i := 9) (N := some 24) (v := ?_) (a' := ?_) #[true, true, true, true, true, true, true, true, true, true, false, false] rfl rfl (any_of HT_.out (by kernel_rfl)) (fun _ _ _ h => h) (Or.inl ⟨by rfl, ?_⟩) ?_ ?_
                    rotate_left
                    · intro w'
                      go_simp
                      with_reducible rfl
                    rotate_left
                    · simp only [Act.put, List.setIfInBounds_toArray, List.set_cons_zero, List.set_cons_succ, i64_w, i32_w]
                      rfl
                    refine one_ (i := 10) (N := some 25) #[true, true, true, true, true, true, true, true, true, true, true, false] rfl rfl (one_of HT_.out (by kernel_rfl)) (by decide) (fun K hK => ?_)
                    refine goes_ Try.func78 (by kernel_rfl) rfl #[.int .i64 (wrap64 ((rd l0 x12_1) - (rd l0 (ji8))))] (by rfl) rfl rfl (by (try simp only [List.map_toArray, List.map_cons, List.map_nil]); first | done | (simp only [hji8]; rfl) | rfl | (simp only [List.length_drop, List.length_take]; rfl)) ?_
                    with_reducible refine (impl_abs.calls (wrap64 ((rd l0 x12_1) - (rd l0 (ji8)))) t201 _ A11.out).mono ?_
                    rintro e w16 ⟨rfl, hb⟩
                    refine ⟨_, rfl, ?_⟩
                    have n0_ := Aside0.mk (below_step (by repeat (first | (with_reducible first | exact HB.out | apply below_alloc | apply pw_below_drewN | apply below_drew1) | exact HB.out)) hb)
                    clear HB
                    have HB := n0_
                    clear n0_
                    (try clear hb)
                    (try clear hb2)
                    (try clear hk)
                    (try clear hi)
                    refine hK.out _ _ ⟨((HB.out.cell (World.block_lt_of_cell? w _ hw199_0)).trans hw199_0), ((HB.out.cell (World.block_lt_of_cell? w _ hw200_0)).trans hw200_0)⟩ (fun hHeld => ?_)
                    clear hK K
                    refine norm_ (a' := ?_) ?_ ?_
                    rotate_left
                    · show Act.put _ (some 25) _ = _
                      simp only [Act.put, List.setIfInBounds_toArray, List.set_cons_zero, List.set_cons_succ, i64_w, i32_w]
                      rfl
                    refine pure_ (i := 11) (N := some 8) (v := ?_) (a' := ?_) #[true, true, true, true, true, true, true, true, true, true, true, true] rfl rfl (any_of HT_.out (by kernel_rfl)) (fun _ _ _ h => h) (Or.inl ⟨by rfl, ?_⟩) ?_ ?_
                    rotate_left
                    · intro w'
                      go_simp
                      with_reducible rfl
                    rotate_left
                    · simp only [Act.put, List.setIfInBounds_toArray, List.set_cons_zero, List.set_cons_succ, i64_w, i32_w]
                      rfl
                    refine done_ (done_of HT_.out (by kernel_rfl)) ?_
                    try go_wp2
                    go_roundg k1
                    case measure => have := HK1.out; omega
                    case rel => exact ⟨(x5_1), (x6_1), (ji8), (by first | rfl | (simp; done) | (simp [*]; done) | (simp [Int.tdiv_eq_ediv_of_nonneg, *]; done)), (by first | rfl | (simp; done) | (simp [*]; done) | (simp [Int.tdiv_eq_ediv_of_nonneg, *]; done)), (by first | rfl | (simp; done) | (simp only [← hji8] <;> (first | rfl | simp)) | (simp [*]; done)), H', ⟨by have := HK1.out; omega⟩, ⟨by repeat (first | (with_reducible first | exact HB.out | apply below_alloc | apply pw_below_drewN | apply below_drew1) | exact HB.out)⟩⟩
                · rw [if_neg c10] at H
                  exact absurd H (by simp)
              · rw [if_neg c9] at H
                exact absurd H (by simp)
            · rw [if_neg c7] at H
              exact absurd H (by simp)
          · rw [if_neg c6] at H
            exact absurd H (by simp)
        · rw [if_neg c5] at H
          have c5b0 : decide (x12_1 < 23) = false := decide_eq_false c5
          clear c5
          simp only [Option.some.injEq, Prod.mk.injEq] at H
          obtain ⟨rfl, rfl, rfl⟩ := H
          go_wp2
          go_ret3
          exact ⟨by first | rfl | (simp [errW_none, errW_some] <;> rfl) | (simp [*, errW_none, errW_some] <;> rfl) | (simp [Int.tdiv_eq_ediv_of_nonneg, *]; done), by repeat (first | (with_reducible first | exact HB.out | apply below_alloc | apply pw_below_drewN | apply below_drew1) | exact HB.out)⟩
  · replace c3 := Bool.eq_false_iff.mpr c3
    subst c3
    have H1 : (some (0, 0, false)) = some (r1, r2, r3) := by rw [if_neg (show ¬ (false = true) by decide)] at H; exact H
    clear H
    have H := H1
    clear H1
    simp only [Option.some.injEq, Prod.mk.injEq] at H
    obtain ⟨rfl, rfl, rfl⟩ := H
    go_enter Try.func20, Try.ntmps20
    go_wp2_with (first | ((with_reducible refine gate_callee (f := 75) rfl ?_); refine goesL_ (some 10) rfl rfl Try.func75 (by kernel_rfl) rfl #[.slice A0 l0.length c0] rfl (by (try simp only [List.map_toArray, List.map_cons, List.map_nil]); first | done | rfl | (simp only [List.length_drop, List.length_take]; rfl)) ?_; (with_reducible refine (impl_isSettled.calls _ _ l0 false _ ?side1 ?side2 A2.out).mono ?_); (case side1 => repeat (first | exact HR0.out | (with_reducible refine Kd.C_alloc ?_ _) | (with_reducible refine Kd.C_drewN ?_ _) | (with_reducible refine Kd.C_drew ?_))); (case side2 => exact HC0.out); rintro e w17 ⟨rfl, hb⟩; refine ⟨_, rfl, ?_⟩; have n0_ := Aside0.mk (below_step (by repeat (first | (with_reducible first | exact HB.out | apply below_alloc | apply pw_below_drewN | apply below_drew1) | exact HB.out)) hb); clear HB; have HB := n0_; clear n0_; (try clear hb); (try clear hb2); (try clear hk); (try clear hi)))
    go_ret3
    exact ⟨by first | rfl | (simp [errW_none, errW_some] <;> rfl) | (simp [*, errW_none, errW_some] <;> rfl) | (simp [Int.tdiv_eq_ediv_of_nonneg, *]; done), by repeat (first | (with_reducible first | exact HB.out | apply below_alloc | apply pw_below_drewN | apply below_drew1) | exact HB.out)⟩

/-! ### laws_b10Abs: function 21 -/
def laws_b10Abs.f (a0 : Int) : Option (Int) := if a0 < 0 then (some (wrap64 (-a0))) else (some a0)
set_option maxHeartbeats 8000000 in
set_option maxRecDepth 100000 in
theorem laws_b10Abs.calls (a0 : Int) (r : Int) (w : World) (h : laws_b10Abs.f a0 = some r) :
    Calls Try.prog 21 #[.int .i64 a0] w fun e w' => e = .returned (.int .i64 r) ∧ Drawn0 w w' := by
  have H : (if a0 < 0 then (some (wrap64 (-a0))) else (some a0)) = some r := h
  clear h
  by_cases c2 : a0 < 0
  · rw [if_pos c2] at H
    have c2b0 : decide (a0 < 0) = true := decide_eq_true c2
    clear c2
    obtain rfl := Option.some.inj H
    go_enter Try.func21, Try.ntmps21
    go_wp2
    go_ret
    exact ⟨by first | rfl | (simp; done) | (simp [*]; done) | (simp [Int.tdiv_eq_ediv_of_nonneg, *]; done), by repeat (first | exact Drawn0.refl _ | apply Drawn0.step)⟩
  · rw [if_neg c2] at H
    have c2b0 : decide (a0 < 0) = false := decide_eq_false c2
    clear c2
    obtain rfl := Option.some.inj H
    go_enter Try.func21, Try.ntmps21
    go_wp2
    go_ret
    exact ⟨by first | rfl | (simp; done) | (simp [*]; done) | (simp [Int.tdiv_eq_ediv_of_nonneg, *]; done), by repeat (first | exact Drawn0.refl _ | apply Drawn0.step)⟩

end Go.Proofs.Ytajndapolblhmab.P
-- Walks of this claim's functions, laid by a program of this session.
namespace Go.Proofs.Ytajndapolblhmab.P
open Go.RowKit Go.Proofs.YtajndapolblhmabW.PrintWords Go.Proofs.YtajndapolblhmabW.PrintLast Go.Proofs.YtajndapolblhmabW.PrintMore
attribute [local go_sem] max2_int min2_int max_two min_two max_three min_three max_four min_four   -- for this text's walks alone
set_option linter.unusedVariables false
set_option linter.unusedSimpArgs false

/-! ### laws_FnWatched: function 3 -/
mutual
def laws_FnWatched.j0 : Nat → List Int → Int → List Int → List (List Int) → Int → Int → Bool → Option (Bool)
  | 0, _, _, _, _, _, _, _ => none
  | k + 1, x5, x7, x8, x10, x12, x13, x85 => if x85 = true then (some false) else (laws_FnWatched.l0 k x5 x7 x8 x10 x12 x13 0)
def laws_FnWatched.l0 : Nat → List Int → Int → List Int → List (List Int) → Int → Int → Int → Option (Bool)
  | 0, _, _, _, _, _, _, _ => none
  | k + 1, x5, x7, x8, x10, x12, x13, x15 => if x15 < 24 then (laws_FnWatched.l1 k x5 x7 x8 x10 x12 x13 x15 false 0) else (if 0 ≤ x12 then (if x12 < (x5.length : Int) then (if 0 ≤ (wrap64 (x12 + 1)) then (if (wrap64 (x12 + 1)) < (x5.length : Int) then ((laws_b10Abs.f (wrap64 ((rd x5 x12) - (rd x5 (wrap64 (x12 + 1)))))).bind fun t225 => (some (t225 == x13))) else (none)) else (none)) else (none)) else (none))
def laws_FnWatched.l1 : Nat → List Int → Int → List Int → List (List Int) → Int → Int → Int → Bool → Int → Option (Bool)
  | 0, _, _, _, _, _, _, _, _, _ => none
  | k + 1, x5, x7, x8, x10, x12, x13, x15, x16, x17 => if x17 < (x10.length : Int) then (if 0 ≤ x17 then (if ((rd_L3 x10 x17).length : Int) = 2 then (if x16 = true then (laws_FnWatched.l1 k x5 x7 x8 x10 x12 x13 x15 true (wrap64 (x17 + 1))) else (if 0 < ((rd_L3 x10 x17).length : Int) then (if (rd (rd_L3 x10 x17) 0) ≤ x15 then (if 1 < ((rd_L3 x10 x17).length : Int) then (laws_FnWatched.l1 k x5 x7 x8 x10 x12 x13 x15 (decide (x15 ≤ (rd (rd_L3 x10 x17) 1))) (wrap64 (x17 + 1))) else (none)) else (laws_FnWatched.l1 k x5 x7 x8 x10 x12 x13 x15 false (wrap64 (x17 + 1)))) else (none))) else (some false)) else (none)) else (if 0 ≤ x15 then (if x15 < (x5.length : Int) then (if (x16 != (decide ((rd x5 x15) ≥ x7))) = true then (laws_FnWatched.j3 k x5 x7 x8 x10 x12 x13 x15 true) else (if x15 < (x8.length : Int) then (laws_FnWatched.j3 k x5 x7 x8 x10 x12 x13 x15 (x16 != ((rd x8 x15) != 0))) else (none))) else (none)) else (none))
def laws_FnWatched.j3 : Nat → List Int → Int → List Int → List (List Int) → Int → Int → Int → Bool → Option (Bool)
  | 0, _, _, _, _, _, _, _, _ => none
  | k + 1, x5, x7, x8, x10, x12, x13, x15, x139 => if x139 = true then (some false) else (if (wrap64 (x15 + 1)) < 24 then (if 0 ≤ x15 then (if x15 < (x5.length : Int) then (if 0 ≤ (wrap64 (x15 + 1)) then (if (wrap64 (x15 + 1)) < (x5.length : Int) then ((laws_b10Abs.f (wrap64 ((rd x5 x15) - (rd x5 (wrap64 (x15 + 1)))))).bind fun t235 => (if t235 > x13 then (some false) else (laws_FnWatched.l0 k x5 x7 x8 x10 x12 x13 (wrap64 (x15 + 1))))) else (none)) else (none)) else (none)) else (none)) else (laws_FnWatched.l0 k x5 x7 x8 x10 x12 x13 (wrap64 (x15 + 1))))
end
def laws_FnWatched.f (k : Nat) (l0 : List Int) (l1 : List Int) : Option (Bool) := (laws_b10Long.f l0 l1).bind fun t202 => (if t202 = true then (some true) else ((spec_B10Losses.f k l0).bind fun t203 => ((impl_SettlementsOf.f k t203).bind fun bt206 => ((laws_b10At.f l1 0 200).bind fun t210 => ((laws_b10At.f l1 1 200).bind fun t211 => ((impl_LevelsOf.f k bt206.1 (wrap64 (1 + (wrap64 (5 * t210)))) (wrap64 ((wrap64 (1 + (wrap64 (5 * t210)))) + t211))).bind fun bt212 => ((impl_StretchesAt.f k bt206.1 (wrap64 (1 + (wrap64 (5 * t210))))).bind fun bt216 => ((impl_SteepestOf.f k bt206.1).bind fun bt220 => (if bt206.2 = true then (if bt212.2 = true then (if bt216.2 = true then (if bt220.2.2 = true then (if (bt206.1.length : Int) = 24 then (if (bt212.1.length : Int) = 24 then (if bt220.1 < 0 then (laws_FnWatched.j0 k bt206.1 (wrap64 (1 + (wrap64 (5 * t210)))) bt212.1 bt216.1 bt220.1 bt220.2.1 true) else (laws_FnWatched.j0 k bt206.1 (wrap64 (1 + (wrap64 (5 * t210)))) bt212.1 bt216.1 bt220.1 bt220.2.1 (decide ((wrap64 (bt220.1 + 1)) ≥ 24)))) else (laws_FnWatched.j0 k bt206.1 (wrap64 (1 + (wrap64 (5 * t210)))) bt212.1 bt216.1 bt220.1 bt220.2.1 true)) else (laws_FnWatched.j0 k bt206.1 (wrap64 (1 + (wrap64 (5 * t210)))) bt212.1 bt216.1 bt220.1 bt220.2.1 true)) else (laws_FnWatched.j0 k bt206.1 (wrap64 (1 + (wrap64 (5 * t210)))) bt212.1 bt216.1 bt220.1 bt220.2.1 true)) else (laws_FnWatched.j0 k bt206.1 (wrap64 (1 + (wrap64 (5 * t210)))) bt212.1 bt216.1 bt220.1 bt220.2.1 true)) else (laws_FnWatched.j0 k bt206.1 (wrap64 (1 + (wrap64 (5 * t210)))) bt212.1 bt216.1 bt220.1 bt220.2.1 true)) else (laws_FnWatched.j0 k bt206.1 (wrap64 (1 + (wrap64 (5 * t210)))) bt212.1 bt216.1 bt220.1 bt220.2.1 true))))))))))
theorem laws_FnWatched.mono_l : ∀ k, (∀ y0 y1 y2 y3 y4 y5 y6, LeO (laws_FnWatched.j0 k y0 y1 y2 y3 y4 y5 y6) (laws_FnWatched.j0 (k + 1) y0 y1 y2 y3 y4 y5 y6)) ∧ (∀ y0 y1 y2 y3 y4 y5 y6, LeO (laws_FnWatched.l0 k y0 y1 y2 y3 y4 y5 y6) (laws_FnWatched.l0 (k + 1) y0 y1 y2 y3 y4 y5 y6)) ∧ (∀ y0 y1 y2 y3 y4 y5 y6 y7 y8, LeO (laws_FnWatched.l1 k y0 y1 y2 y3 y4 y5 y6 y7 y8) (laws_FnWatched.l1 (k + 1) y0 y1 y2 y3 y4 y5 y6 y7 y8)) ∧ (∀ y0 y1 y2 y3 y4 y5 y6 y7, LeO (laws_FnWatched.j3 k y0 y1 y2 y3 y4 y5 y6 y7) (laws_FnWatched.j3 (k + 1) y0 y1 y2 y3 y4 y5 y6 y7))
  | 0 => ⟨fun _ _ _ _ _ _ _ r h => by simp [laws_FnWatched.j0] at h, fun _ _ _ _ _ _ _ r h => by simp [laws_FnWatched.l0] at h, fun _ _ _ _ _ _ _ _ _ r h => by simp [laws_FnWatched.l1] at h, fun _ _ _ _ _ _ _ _ r h => by simp [laws_FnWatched.j3] at h⟩
  | k + 1 => by
    obtain ⟨ih0, ih1, ih2, ih3⟩ := laws_FnWatched.mono_l k
    refine ⟨?_, ?_, ?_, ?_⟩
    · intro y0 y1 y2 y3 y4 y5 y6
      unfold laws_FnWatched.j0
      repeat' first
      | (with_reducible exact ih0 _ _ _ _ _ _ _)
      | (with_reducible exact ih1 _ _ _ _ _ _ _)
      | (with_reducible exact ih2 _ _ _ _ _ _ _ _ _)
      | (with_reducible exact ih3 _ _ _ _ _ _ _ _)
      | (with_reducible exact impl_LevelsOf.mono _ _ _ _)
      | (with_reducible exact impl_SettlementsOf.mono _ _)
      | (with_reducible exact impl_SteepestOf.mono _ _)
      | (with_reducible exact impl_StretchesAt.mono _ _ _)
      | (with_reducible exact spec_B10Losses.mono _ _)
      | (with_reducible exact LeO.refl _)
      | (with_reducible exact LeO.none _)
      | (with_reducible refine LeO.ite ?_ ?_)
      | (with_reducible refine LeO.bind ?_ (fun _ => ?_))
      | exact ih0 _ _ _ _ _ _ _
      | exact ih1 _ _ _ _ _ _ _
      | exact ih2 _ _ _ _ _ _ _ _ _
      | exact ih3 _ _ _ _ _ _ _ _
      | exact impl_LevelsOf.mono _ _ _ _
      | exact impl_SettlementsOf.mono _ _
      | exact impl_SteepestOf.mono _ _
      | exact impl_StretchesAt.mono _ _ _
      | exact spec_B10Losses.mono _ _
      | exact LeO.none _
      | refine LeO.ite ?_ ?_
      | refine LeO.bind ?_ (fun _ => ?_)
    · intro y0 y1 y2 y3 y4 y5 y6
      unfold laws_FnWatched.l0
      repeat' first
      | (with_reducible exact ih0 _ _ _ _ _ _ _)
      | (with_reducible exact ih1 _ _ _ _ _ _ _)
      | (with_reducible exact ih2 _ _ _ _ _ _ _ _ _)
      | (with_reducible exact ih3 _ _ _ _ _ _ _ _)
      | (with_reducible exact impl_LevelsOf.mono _ _ _ _)
      | (with_reducible exact impl_SettlementsOf.mono _ _)
      | (with_reducible exact impl_SteepestOf.mono _ _)
      | (with_reducible exact impl_StretchesAt.mono _ _ _)
      | (with_reducible exact spec_B10Losses.mono _ _)
      | (with_reducible exact LeO.refl _)
      | (with_reducible exact LeO.none _)
      | (with_reducible refine LeO.ite ?_ ?_)
      | (with_reducible refine LeO.bind ?_ (fun _ => ?_))
      | exact ih0 _ _ _ _ _ _ _
      | exact ih1 _ _ _ _ _ _ _
      | exact ih2 _ _ _ _ _ _ _ _ _
      | exact ih3 _ _ _ _ _ _ _ _
      | exact impl_LevelsOf.mono _ _ _ _
      | exact impl_SettlementsOf.mono _ _
      | exact impl_SteepestOf.mono _ _
      | exact impl_StretchesAt.mono _ _ _
      | exact spec_B10Losses.mono _ _
      | exact LeO.none _
      | refine LeO.ite ?_ ?_
      | refine LeO.bind ?_ (fun _ => ?_)
    · intro y0 y1 y2 y3 y4 y5 y6 y7 y8
      unfold laws_FnWatched.l1
      repeat' first
      | (with_reducible exact ih0 _ _ _ _ _ _ _)
      | (with_reducible exact ih1 _ _ _ _ _ _ _)
      | (with_reducible exact ih2 _ _ _ _ _ _ _ _ _)
      | (with_reducible exact ih3 _ _ _ _ _ _ _ _)
      | (with_reducible exact impl_LevelsOf.mono _ _ _ _)
      | (with_reducible exact impl_SettlementsOf.mono _ _)
      | (with_reducible exact impl_SteepestOf.mono _ _)
      | (with_reducible exact impl_StretchesAt.mono _ _ _)
      | (with_reducible exact spec_B10Losses.mono _ _)
      | (with_reducible exact LeO.refl _)
      | (with_reducible exact LeO.none _)
      | (with_reducible refine LeO.ite ?_ ?_)
      | (with_reducible refine LeO.bind ?_ (fun _ => ?_))
      | exact ih0 _ _ _ _ _ _ _
      | exact ih1 _ _ _ _ _ _ _
      | exact ih2 _ _ _ _ _ _ _ _ _
      | exact ih3 _ _ _ _ _ _ _ _
      | exact impl_LevelsOf.mono _ _ _ _
      | exact impl_SettlementsOf.mono _ _
      | exact impl_SteepestOf.mono _ _
      | exact impl_StretchesAt.mono _ _ _
      | exact spec_B10Losses.mono _ _
      | exact LeO.none _
      | refine LeO.ite ?_ ?_
      | refine LeO.bind ?_ (fun _ => ?_)
    · intro y0 y1 y2 y3 y4 y5 y6 y7
      unfold laws_FnWatched.j3
      repeat' first
      | (with_reducible exact ih0 _ _ _ _ _ _ _)
      | (with_reducible exact ih1 _ _ _ _ _ _ _)
      | (with_reducible exact ih2 _ _ _ _ _ _ _ _ _)
      | (with_reducible exact ih3 _ _ _ _ _ _ _ _)
      | (with_reducible exact impl_LevelsOf.mono _ _ _ _)
      | (with_reducible exact impl_SettlementsOf.mono _ _)
      | (with_reducible exact impl_SteepestOf.mono _ _)
      | (with_reducible exact impl_StretchesAt.mono _ _ _)
      | (with_reducible exact spec_B10Losses.mono _ _)
      | (with_reducible exact LeO.refl _)
      | (with_reducible exact LeO.none _)
      | (with_reducible refine LeO.ite ?_ ?_)
      | (with_reducible refine LeO.bind ?_ (fun _ => ?_))
      | exact ih0 _ _ _ _ _ _ _
      | exact ih1 _ _ _ _ _ _ _
      | exact ih2 _ _ _ _ _ _ _ _ _
      | exact ih3 _ _ _ _ _ _ _ _
      | exact impl_LevelsOf.mono _ _ _ _
      | exact impl_SettlementsOf.mono _ _
      | exact impl_SteepestOf.mono _ _
      | exact impl_StretchesAt.mono _ _ _
      | exact spec_B10Losses.mono _ _
      | exact LeO.none _
      | refine LeO.ite ?_ ?_
      | refine LeO.bind ?_ (fun _ => ?_)
theorem laws_FnWatched.mono : ∀ a0 a1 k, LeO (laws_FnWatched.f k a0 a1) (laws_FnWatched.f (k + 1) a0 a1) := by
  intro a0 a1 k
  obtain ⟨ih0, ih1, ih2, ih3⟩ := laws_FnWatched.mono_l k
  unfold laws_FnWatched.f
  repeat' first
      | (with_reducible exact ih0 _ _ _ _ _ _ _)
      | (with_reducible exact ih1 _ _ _ _ _ _ _)
      | (with_reducible exact ih2 _ _ _ _ _ _ _ _ _)
      | (with_reducible exact ih3 _ _ _ _ _ _ _ _)
      | (with_reducible exact impl_LevelsOf.mono _ _ _ _)
      | (with_reducible exact impl_SettlementsOf.mono _ _)
      | (with_reducible exact impl_SteepestOf.mono _ _)
      | (with_reducible exact impl_StretchesAt.mono _ _ _)
      | (with_reducible exact spec_B10Losses.mono _ _)
      | (with_reducible exact LeO.refl _)
      | (with_reducible exact LeO.none _)
      | (with_reducible refine LeO.ite ?_ ?_)
      | (with_reducible refine LeO.bind ?_ (fun _ => ?_))
      | exact ih0 _ _ _ _ _ _ _
      | exact ih1 _ _ _ _ _ _ _
      | exact ih2 _ _ _ _ _ _ _ _ _
      | exact ih3 _ _ _ _ _ _ _ _
      | exact impl_LevelsOf.mono _ _ _ _
      | exact impl_SettlementsOf.mono _ _
      | exact impl_SteepestOf.mono _ _
      | exact impl_StretchesAt.mono _ _ _
      | exact spec_B10Losses.mono _ _
      | exact LeO.none _
      | refine LeO.ite ?_ ?_
      | refine LeO.bind ?_ (fun _ => ?_)
set_option maxHeartbeats 8000000 in
set_option maxRecDepth 100000 in
theorem laws_FnWatched.calls (k : Nat) (A0 : Option Addr) (c0 : Nat) (l0 : List Int) (A1 : Option Addr) (c1 : Nat) (l1 : List Int) (r : Bool) (w : World) (hr0 : Kd.C (Kd.int .u8) w A0 l0.length l0) (hc0 : l0.length ≤ c0) (hr1 : Kd.C (Kd.int .u8) w A1 l1.length l1) (hc1 : l1.length ≤ c1) (h : laws_FnWatched.f k l0 l1 = some r) :
    Calls Try.prog 3 #[.slice A0 l0.length c0, .slice A1 l1.length c1] w fun e w' => e = .returned (.bool r) ∧ Below w.heap.size w w' := by
  have HR0 := Aside0.mk hr0
  have HC0 := Aside0.mk hc0
  clear hr0 hc0
  have HR1 := Aside0.mk hr1
  have HC1 := Aside0.mk hc1
  clear hr1 hc1
  have HB := Aside0.mk (Below.refl w.heap.size w)
  have H : ((laws_b10Long.f l0 l1).bind fun t202 => (if t202 = true then (some true) else ((spec_B10Losses.f k l0).bind fun t203 => ((impl_SettlementsOf.f k t203).bind fun bt206 => ((laws_b10At.f l1 0 200).bind fun t210 => ((laws_b10At.f l1 1 200).bind fun t211 => ((impl_LevelsOf.f k bt206.1 (wrap64 (1 + (wrap64 (5 * t210)))) (wrap64 ((wrap64 (1 + (wrap64 (5 * t210)))) + t211))).bind fun bt212 => ((impl_StretchesAt.f k bt206.1 (wrap64 (1 + (wrap64 (5 * t210))))).bind fun bt216 => ((impl_SteepestOf.f k bt206.1).bind fun bt220 => (if bt206.2 = true then (if bt212.2 = true then (if bt216.2 = true then (if bt220.2.2 = true then (if (bt206.1.length : Int) = 24 then (if (bt212.1.length : Int) = 24 then (if bt220.1 < 0 then (laws_FnWatched.j0 k bt206.1 (wrap64 (1 + (wrap64 (5 * t210)))) bt212.1 bt216.1 bt220.1 bt220.2.1 true) else (laws_FnWatched.j0 k bt206.1 (wrap64 (1 + (wrap64 (5 * t210)))) bt212.1 bt216.1 bt220.1 bt220.2.1 (decide ((wrap64 (bt220.1 + 1)) ≥ 24)))) else (laws_FnWatched.j0 k bt206.1 (wrap64 (1 + (wrap64 (5 * t210)))) bt212.1 bt216.1 bt220.1 bt220.2.1 true)) else (laws_FnWatched.j0 k bt206.1 (wrap64 (1 + (wrap64 (5 * t210)))) bt212.1 bt216.1 bt220.1 bt220.2.1 true)) else (laws_FnWatched.j0 k bt206.1 (wrap64 (1 + (wrap64 (5 * t210)))) bt212.1 bt216.1 bt220.1 bt220.2.1 true)) else (laws_FnWatched.j0 k bt206.1 (wrap64 (1 + (wrap64 (5 * t210)))) bt212.1 bt216.1 bt220.1 bt220.2.1 true)) else (laws_FnWatched.j0 k bt206.1 (wrap64 (1 + (wrap64 (5 * t210)))) bt212.1 bt216.1 bt220.1 bt220.2.1 true)) else (laws_FnWatched.j0 k bt206.1 (wrap64 (1 + (wrap64 (5 * t210)))) bt212.1 bt216.1 bt220.1 bt220.2.1 true))))))))))) = some r := h
  clear h
  replace H := Option.bind_eq_some_iff.mp H
  obtain ⟨t202, A30, H⟩ := H
  replace H : (if t202 = true then (some true) else ((spec_B10Losses.f k l0).bind fun t203 => ((impl_SettlementsOf.f k t203).bind fun bt206 => ((laws_b10At.f l1 0 200).bind fun t210 => ((laws_b10At.f l1 1 200).bind fun t211 => ((impl_LevelsOf.f k bt206.1 (wrap64 (1 + (wrap64 (5 * t210)))) (wrap64 ((wrap64 (1 + (wrap64 (5 * t210)))) + t211))).bind fun bt212 => ((impl_StretchesAt.f k bt206.1 (wrap64 (1 + (wrap64 (5 * t210))))).bind fun bt216 => ((impl_SteepestOf.f k bt206.1).bind fun bt220 => (if bt206.2 = true then (if bt212.2 = true then (if bt216.2 = true then (if bt220.2.2 = true then (if (bt206.1.length : Int) = 24 then (if (bt212.1.length : Int) = 24 then (if bt220.1 < 0 then (laws_FnWatched.j0 k bt206.1 (wrap64 (1 + (wrap64 (5 * t210)))) bt212.1 bt216.1 bt220.1 bt220.2.1 true) else (laws_FnWatched.j0 k bt206.1 (wrap64 (1 + (wrap64 (5 * t210)))) bt212.1 bt216.1 bt220.1 bt220.2.1 (decide ((wrap64 (bt220.1 + 1)) ≥ 24)))) else (laws_FnWatched.j0 k bt206.1 (wrap64 (1 + (wrap64 (5 * t210)))) bt212.1 bt216.1 bt220.1 bt220.2.1 true)) else (laws_FnWatched.j0 k bt206.1 (wrap64 (1 + (wrap64 (5 * t210)))) bt212.1 bt216.1 bt220.1 bt220.2.1 true)) else (laws_FnWatched.j0 k bt206.1 (wrap64 (1 + (wrap64 (5 * t210)))) bt212.1 bt216.1 bt220.1 bt220.2.1 true)) else (laws_FnWatched.j0 k bt206.1 (wrap64 (1 + (wrap64 (5 * t210)))) bt212.1 bt216.1 bt220.1 bt220.2.1 true)) else (laws_FnWatched.j0 k bt206.1 (wrap64 (1 + (wrap64 (5 * t210)))) bt212.1 bt216.1 bt220.1 bt220.2.1 true)) else (laws_FnWatched.j0 k bt206.1 (wrap64 (1 + (wrap64 (5 * t210)))) bt212.1 bt216.1 bt220.1 bt220.2.1 true)))))))))) = some r := H
  have A3 := Aside0.mk A30
  clear A30
  by_cases c4 : t202 = true
  · subst c4
    have H1 : (some true) = some r := by rw [if_pos rfl] at H; exact H
    clear H
    have H := H1
    clear H1
    obtain rfl := Option.some.inj H
    go_enter Try.func3, Try.ntmps3
    go_wp2_with (first | (go_at_call 14; (with_reducible refine (laws_b10Long.calls _ _ l0 _ _ l1 true _ ?side1 ?side2 ?side3 ?side4 A3.out).mono ?_); (case side1 => repeat (first | exact HR0.out | (with_reducible refine Kd.C_alloc ?_ _) | (with_reducible refine Kd.C_drewN ?_ _) | (with_reducible refine Kd.C_drew ?_))); (case side2 => exact HC0.out); (case side3 => repeat (first | exact HR1.out | (with_reducible refine Kd.C_alloc ?_ _) | (with_reducible refine Kd.C_drewN ?_ _) | (with_reducible refine Kd.C_drew ?_))); (case side4 => exact HC1.out); rintro e w' ⟨rfl, ⟨nd, rfl⟩⟩; (try first | exact ⟨rfl, _, World.drewN_drewN _ _ _⟩ | exact ⟨rfl, _, Eq.trans (World.drewN_drewN _ _ _) (congrArg (World.drewN _) (Nat.add_assoc _ _ _))⟩)))
    repeat (go_quiet (first | (go_at_call 14; (with_reducible refine (laws_b10Long.calls _ _ l0 _ _ l1 true _ ?side1 ?side2 ?side3 ?side4 A3.out).mono ?_); (case side1 => repeat (first | exact HR0.out | (with_reducible refine Kd.C_alloc ?_ _) | (with_reducible refine Kd.C_drewN ?_ _) | (with_reducible refine Kd.C_drew ?_))); (case side2 => exact HC0.out); (case side3 => repeat (first | exact HR1.out | (with_reducible refine Kd.C_alloc ?_ _) | (with_reducible refine Kd.C_drewN ?_ _) | (with_reducible refine Kd.C_drew ?_))); (case side4 => exact HC1.out); rintro e w' ⟨rfl, ⟨nd, rfl⟩⟩; (try first | exact ⟨rfl, _, World.drewN_drewN _ _ _⟩ | exact ⟨rfl, _, Eq.trans (World.drewN_drewN _ _ _) (congrArg (World.drewN _) (Nat.add_assoc _ _ _))⟩))); try go_wp2_with (first | (go_at_call 14; (with_reducible refine (laws_b10Long.calls _ _ l0 _ _ l1 true _ ?side1 ?side2 ?side3 ?side4 A3.out).mono ?_); (case side1 => repeat (first | exact HR0.out | (with_reducible refine Kd.C_alloc ?_ _) | (with_reducible refine Kd.C_drewN ?_ _) | (with_reducible refine Kd.C_drew ?_))); (case side2 => exact HC0.out); (case side3 => repeat (first | exact HR1.out | (with_reducible refine Kd.C_alloc ?_ _) | (with_reducible refine Kd.C_drewN ?_ _) | (with_reducible refine Kd.C_drew ?_))); (case side4 => exact HC1.out); rintro e w' ⟨rfl, ⟨nd, rfl⟩⟩; (try first | exact ⟨rfl, _, World.drewN_drewN _ _ _⟩ | exact ⟨rfl, _, Eq.trans (World.drewN_drewN _ _ _) (congrArg (World.drewN _) (Nat.add_assoc _ _ _))⟩))))
    go_ret
    exact ⟨by first | rfl | (simp [errW_none, errW_some] <;> rfl) | (simp [*, errW_none, errW_some] <;> rfl) | (simp [Int.tdiv_eq_ediv_of_nonneg, *]; done), by repeat (first | (with_reducible first | exact HB.out | apply below_alloc | apply pw_below_drewN | apply below_drew1) | exact HB.out)⟩
  · replace c4 := Bool.eq_false_iff.mpr c4
    subst c4
    have H1 : ((spec_B10Losses.f k l0).bind fun t203 => ((impl_SettlementsOf.f k t203).bind fun bt206 => ((laws_b10At.f l1 0 200).bind fun t210 => ((laws_b10At.f l1 1 200).bind fun t211 => ((impl_LevelsOf.f k bt206.1 (wrap64 (1 + (wrap64 (5 * t210)))) (wrap64 ((wrap64 (1 + (wrap64 (5 * t210)))) + t211))).bind fun bt212 => ((impl_StretchesAt.f k bt206.1 (wrap64 (1 + (wrap64 (5 * t210))))).bind fun bt216 => ((impl_SteepestOf.f k bt206.1).bind fun bt220 => (if bt206.2 = true then (if bt212.2 = true then (if bt216.2 = true then (if bt220.2.2 = true then (if (bt206.1.length : Int) = 24 then (if (bt212.1.length : Int) = 24 then (if bt220.1 < 0 then (laws_FnWatched.j0 k bt206.1 (wrap64 (1 + (wrap64 (5 * t210)))) bt212.1 bt216.1 bt220.1 bt220.2.1 true) else (laws_FnWatched.j0 k bt206.1 (wrap64 (1 + (wrap64 (5 * t210)))) bt212.1 bt216.1 bt220.1 bt220.2.1 (decide ((wrap64 (bt220.1 + 1)) ≥ 24)))) else (laws_FnWatched.j0 k bt206.1 (wrap64 (1 + (wrap64 (5 * t210)))) bt212.1 bt216.1 bt220.1 bt220.2.1 true)) else (laws_FnWatched.j0 k bt206.1 (wrap64 (1 + (wrap64 (5 * t210)))) bt212.1 bt216.1 bt220.1 bt220.2.1 true)) else (laws_FnWatched.j0 k bt206.1 (wrap64 (1 + (wrap64 (5 * t210)))) bt212.1 bt216.1 bt220.1 bt220.2.1 true)) else (laws_FnWatched.j0 k bt206.1 (wrap64 (1 + (wrap64 (5 * t210)))) bt212.1 bt216.1 bt220.1 bt220.2.1 true)) else (laws_FnWatched.j0 k bt206.1 (wrap64 (1 + (wrap64 (5 * t210)))) bt212.1 bt216.1 bt220.1 bt220.2.1 true)) else (laws_FnWatched.j0 k bt206.1 (wrap64 (1 + (wrap64 (5 * t210)))) bt212.1 bt216.1 bt220.1 bt220.2.1 true))))))))) = some r := by rw [if_neg (show ¬ (false = true) by decide)] at H; exact H
    clear H
    have H := H1
    clear H1
    replace H := Option.bind_eq_some_iff.mp H
    obtain ⟨t203, A50, H⟩ := H
    replace H : ((impl_SettlementsOf.f k t203).bind fun bt206 => ((laws_b10At.f l1 0 200).bind fun t210 => ((laws_b10At.f l1 1 200).bind fun t211 => ((impl_LevelsOf.f k bt206.1 (wrap64 (1 + (wrap64 (5 * t210)))) (wrap64 ((wrap64 (1 + (wrap64 (5 * t210)))) + t211))).bind fun bt212 => ((impl_StretchesAt.f k bt206.1 (wrap64 (1 + (wrap64 (5 * t210))))).bind fun bt216 => ((impl_SteepestOf.f k bt206.1).bind fun bt220 => (if bt206.2 = true then (if bt212.2 = true then (if bt216.2 = true then (if bt220.2.2 = true then (if (bt206.1.length : Int) = 24 then (if (bt212.1.length : Int) = 24 then (if bt220.1 < 0 then (laws_FnWatched.j0 k bt206.1 (wrap64 (1 + (wrap64 (5 * t210)))) bt212.1 bt216.1 bt220.1 bt220.2.1 true) else (laws_FnWatched.j0 k bt206.1 (wrap64 (1 + (wrap64 (5 * t210)))) bt212.1 bt216.1 bt220.1 bt220.2.1 (decide ((wrap64 (bt220.1 + 1)) ≥ 24)))) else (laws_FnWatched.j0 k bt206.1 (wrap64 (1 + (wrap64 (5 * t210)))) bt212.1 bt216.1 bt220.1 bt220.2.1 true)) else (laws_FnWatched.j0 k bt206.1 (wrap64 (1 + (wrap64 (5 * t210)))) bt212.1 bt216.1 bt220.1 bt220.2.1 true)) else (laws_FnWatched.j0 k bt206.1 (wrap64 (1 + (wrap64 (5 * t210)))) bt212.1 bt216.1 bt220.1 bt220.2.1 true)) else (laws_FnWatched.j0 k bt206.1 (wrap64 (1 + (wrap64 (5 * t210)))) bt212.1 bt216.1 bt220.1 bt220.2.1 true)) else (laws_FnWatched.j0 k bt206.1 (wrap64 (1 + (wrap64 (5 * t210)))) bt212.1 bt216.1 bt220.1 bt220.2.1 true)) else (laws_FnWatched.j0 k bt206.1 (wrap64 (1 + (wrap64 (5 * t210)))) bt212.1 bt216.1 bt220.1 bt220.2.1 true)))))))) = some r := H
    have A5 := Aside0.mk A50
    clear A50
    replace H := Option.bind_eq_some_iff.mp H
    obtain ⟨⟨t206, t207⟩, A60, H⟩ := H
    replace H : ((laws_b10At.f l1 0 200).bind fun t210 => ((laws_b10At.f l1 1 200).bind fun t211 => ((impl_LevelsOf.f k t206 (wrap64 (1 + (wrap64 (5 * t210)))) (wrap64 ((wrap64 (1 + (wrap64 (5 * t210)))) + t211))).bind fun bt212 => ((impl_StretchesAt.f k t206 (wrap64 (1 + (wrap64 (5 * t210))))).bind fun bt216 => ((impl_SteepestOf.f k t206).bind fun bt220 => (if t207 = true then (if bt212.2 = true then (if bt216.2 = true then (if bt220.2.2 = true then (if (t206.length : Int) = 24 then (if (bt212.1.length : Int) = 24 then (if bt220.1 < 0 then (laws_FnWatched.j0 k t206 (wrap64 (1 + (wrap64 (5 * t210)))) bt212.1 bt216.1 bt220.1 bt220.2.1 true) else (laws_FnWatched.j0 k t206 (wrap64 (1 + (wrap64 (5 * t210)))) bt212.1 bt216.1 bt220.1 bt220.2.1 (decide ((wrap64 (bt220.1 + 1)) ≥ 24)))) else (laws_FnWatched.j0 k t206 (wrap64 (1 + (wrap64 (5 * t210)))) bt212.1 bt216.1 bt220.1 bt220.2.1 true)) else (laws_FnWatched.j0 k t206 (wrap64 (1 + (wrap64 (5 * t210)))) bt212.1 bt216.1 bt220.1 bt220.2.1 true)) else (laws_FnWatched.j0 k t206 (wrap64 (1 + (wrap64 (5 * t210)))) bt212.1 bt216.1 bt220.1 bt220.2.1 true)) else (laws_FnWatched.j0 k t206 (wrap64 (1 + (wrap64 (5 * t210)))) bt212.1 bt216.1 bt220.1 bt220.2.1 true)) else (laws_FnWatched.j0 k t206 (wrap64 (1 + (wrap64 (5 * t210)))) bt212.1 bt216.1 bt220.1 bt220.2.1 true)) else (laws_FnWatched.j0 k t206 (wrap64 (1 + (wrap64 (5 * t210)))) bt212.1 bt216.1 bt220.1 bt220.2.1 true))))))) = some r := H
    have A6 := Aside0.mk A60
    clear A60
    replace H := Option.bind_eq_some_iff.mp H
    obtain ⟨t210, A70, H⟩ := H
    replace H : ((laws_b10At.f l1 1 200).bind fun t211 => ((impl_LevelsOf.f k t206 (wrap64 (1 + (wrap64 (5 * t210)))) (wrap64 ((wrap64 (1 + (wrap64 (5 * t210)))) + t211))).bind fun bt212 => ((impl_StretchesAt.f k t206 (wrap64 (1 + (wrap64 (5 * t210))))).bind fun bt216 => ((impl_SteepestOf.f k t206).bind fun bt220 => (if t207 = true then (if bt212.2 = true then (if bt216.2 = true then (if bt220.2.2 = true then (if (t206.length : Int) = 24 then (if (bt212.1.length : Int) = 24 then (if bt220.1 < 0 then (laws_FnWatched.j0 k t206 (wrap64 (1 + (wrap64 (5 * t210)))) bt212.1 bt216.1 bt220.1 bt220.2.1 true) else (laws_FnWatched.j0 k t206 (wrap64 (1 + (wrap64 (5 * t210)))) bt212.1 bt216.1 bt220.1 bt220.2.1 (decide ((wrap64 (bt220.1 + 1)) ≥ 24)))) else (laws_FnWatched.j0 k t206 (wrap64 (1 + (wrap64 (5 * t210)))) bt212.1 bt216.1 bt220.1 bt220.2.1 true)) else (laws_FnWatched.j0 k t206 (wrap64 (1 + (wrap64 (5 * t210)))) bt212.1 bt216.1 bt220.1 bt220.2.1 true)) else (laws_FnWatched.j0 k t206 (wrap64 (1 + (wrap64 (5 * t210)))) bt212.1 bt216.1 bt220.1 bt220.2.1 true)) else (laws_FnWatched.j0 k t206 (wrap64 (1 + (wrap64 (5 * t210)))) bt212.1 bt216.1 bt220.1 bt220.2.1 true)) else (laws_FnWatched.j0 k t206 (wrap64 (1 + (wrap64 (5 * t210)))) bt212.1 bt216.1 bt220.1 bt220.2.1 true)) else (laws_FnWatched.j0 k t206 (wrap64 (1 + (wrap64 (5 * t210)))) bt212.1 bt216.1 bt220.1 bt220.2.1 true)))))) = some r := H
    have A7 := Aside0.mk A70
    clear A70
    replace H := Option.bind_eq_some_iff.mp H
    obtain ⟨t211, A80, H⟩ := H
    replace H : ((impl_LevelsOf.f k t206 (wrap64 (1 + (wrap64 (5 * t210)))) (wrap64 ((wrap64 (1 + (wrap64 (5 * t210)))) + t211))).bind fun bt212 => ((impl_StretchesAt.f k t206 (wrap64 (1 + (wrap64 (5 * t210))))).bind fun bt216 => ((impl_SteepestOf.f k t206).bind fun bt220 => (if t207 = true then (if bt212.2 = true then (if bt216.2 = true then (if bt220.2.2 = true then (if (t206.length : Int) = 24 then (if (bt212.1.length : Int) = 24 then (if bt220.1 < 0 then (laws_FnWatched.j0 k t206 (wrap64 (1 + (wrap64 (5 * t210)))) bt212.1 bt216.1 bt220.1 bt220.2.1 true) else (laws_FnWatched.j0 k t206 (wrap64 (1 + (wrap64 (5 * t210)))) bt212.1 bt216.1 bt220.1 bt220.2.1 (decide ((wrap64 (bt220.1 + 1)) ≥ 24)))) else (laws_FnWatched.j0 k t206 (wrap64 (1 + (wrap64 (5 * t210)))) bt212.1 bt216.1 bt220.1 bt220.2.1 true)) else (laws_FnWatched.j0 k t206 (wrap64 (1 + (wrap64 (5 * t210)))) bt212.1 bt216.1 bt220.1 bt220.2.1 true)) else (laws_FnWatched.j0 k t206 (wrap64 (1 + (wrap64 (5 * t210)))) bt212.1 bt216.1 bt220.1 bt220.2.1 true)) else (laws_FnWatched.j0 k t206 (wrap64 (1 + (wrap64 (5 * t210)))) bt212.1 bt216.1 bt220.1 bt220.2.1 true)) else (laws_FnWatched.j0 k t206 (wrap64 (1 + (wrap64 (5 * t210)))) bt212.1 bt216.1 bt220.1 bt220.2.1 true)) else (laws_FnWatched.j0 k t206 (wrap64 (1 + (wrap64 (5 * t210)))) bt212.1 bt216.1 bt220.1 bt220.2.1 true))))) = some r := H
    have A8 := Aside0.mk A80
    clear A80
    replace H := Option.bind_eq_some_iff.mp H
    obtain ⟨⟨t212, t213⟩, A90, H⟩ := H
    replace H : ((impl_StretchesAt.f k t206 (wrap64 (1 + (wrap64 (5 * t210))))).bind fun bt216 => ((impl_SteepestOf.f k t206).bind fun bt220 => (if t207 = true then (if t213 = true then (if bt216.2 = true then (if bt220.2.2 = true then (if (t206.length : Int) = 24 then (if (t212.length : Int) = 24 then (if bt220.1 < 0 then (laws_FnWatched.j0 k t206 (wrap64 (1 + (wrap64 (5 * t210)))) t212 bt216.1 bt220.1 bt220.2.1 true) else (laws_FnWatched.j0 k t206 (wrap64 (1 + (wrap64 (5 * t210)))) t212 bt216.1 bt220.1 bt220.2.1 (decide ((wrap64 (bt220.1 + 1)) ≥ 24)))) else (laws_FnWatched.j0 k t206 (wrap64 (1 + (wrap64 (5 * t210)))) t212 bt216.1 bt220.1 bt220.2.1 true)) else (laws_FnWatched.j0 k t206 (wrap64 (1 + (wrap64 (5 * t210)))) t212 bt216.1 bt220.1 bt220.2.1 true)) else (laws_FnWatched.j0 k t206 (wrap64 (1 + (wrap64 (5 * t210)))) t212 bt216.1 bt220.1 bt220.2.1 true)) else (laws_FnWatched.j0 k t206 (wrap64 (1 + (wrap64 (5 * t210)))) t212 bt216.1 bt220.1 bt220.2.1 true)) else (laws_FnWatched.j0 k t206 (wrap64 (1 + (wrap64 (5 * t210)))) t212 bt216.1 bt220.1 bt220.2.1 true)) else (laws_FnWatched.j0 k t206 (wrap64 (1 + (wrap64 (5 * t210)))) t212 bt216.1 bt220.1 bt220.2.1 true)))) = some r := H
    have A9 := Aside0.mk A90
    clear A90
    replace H := Option.bind_eq_some_iff.mp H
    obtain ⟨⟨t216, t217⟩, A100, H⟩ := H
    replace H : ((impl_SteepestOf.f k t206).bind fun bt220 => (if t207 = true then (if t213 = true then (if t217 = true then (if bt220.2.2 = true then (if (t206.length : Int) = 24 then (if (t212.length : Int) = 24 then (if bt220.1 < 0 then (laws_FnWatched.j0 k t206 (wrap64 (1 + (wrap64 (5 * t210)))) t212 t216 bt220.1 bt220.2.1 true) else (laws_FnWatched.j0 k t206 (wrap64 (1 + (wrap64 (5 * t210)))) t212 t216 bt220.1 bt220.2.1 (decide ((wrap64 (bt220.1 + 1)) ≥ 24)))) else (laws_FnWatched.j0 k t206 (wrap64 (1 + (wrap64 (5 * t210)))) t212 t216 bt220.1 bt220.2.1 true)) else (laws_FnWatched.j0 k t206 (wrap64 (1 + (wrap64 (5 * t210)))) t212 t216 bt220.1 bt220.2.1 true)) else (laws_FnWatched.j0 k t206 (wrap64 (1 + (wrap64 (5 * t210)))) t212 t216 bt220.1 bt220.2.1 true)) else (laws_FnWatched.j0 k t206 (wrap64 (1 + (wrap64 (5 * t210)))) t212 t216 bt220.1 bt220.2.1 true)) else (laws_FnWatched.j0 k t206 (wrap64 (1 + (wrap64 (5 * t210)))) t212 t216 bt220.1 bt220.2.1 true)) else (laws_FnWatched.j0 k t206 (wrap64 (1 + (wrap64 (5 * t210)))) t212 t216 bt220.1 bt220.2.1 true))) = some r := H
    have A10 := Aside0.mk A100
    clear A100
    replace H := Option.bind_eq_some_iff.mp H
    obtain ⟨⟨t220, t221, t222⟩, A110, H⟩ := H
    replace H : (if t207 = true then (if t213 = true then (if t217 = true then (if t222 = true then (if (t206.length : Int) = 24 then (if (t212.length : Int) = 24 then (if t220 < 0 then (laws_FnWatched.j0 k t206 (wrap64 (1 + (wrap64 (5 * t210)))) t212 t216 t220 t221 true) else (laws_FnWatched.j0 k t206 (wrap64 (1 + (wrap64 (5 * t210)))) t212 t216 t220 t221 (decide ((wrap64 (t220 + 1)) ≥ 24)))) else (laws_FnWatched.j0 k t206 (wrap64 (1 + (wrap64 (5 * t210)))) t212 t216 t220 t221 true)) else (laws_FnWatched.j0 k t206 (wrap64 (1 + (wrap64 (5 * t210)))) t212 t216 t220 t221 true)) else (laws_FnWatched.j0 k t206 (wrap64 (1 + (wrap64 (5 * t210)))) t212 t216 t220 t221 true)) else (laws_FnWatched.j0 k t206 (wrap64 (1 + (wrap64 (5 * t210)))) t212 t216 t220 t221 true)) else (laws_FnWatched.j0 k t206 (wrap64 (1 + (wrap64 (5 * t210)))) t212 t216 t220 t221 true)) else (laws_FnWatched.j0 k t206 (wrap64 (1 + (wrap64 (5 * t210)))) t212 t216 t220 t221 true)) = some r := H
    have A11 := Aside0.mk A110
    clear A110
    have HC12 := Aside0.mk H
    clear H
    go_enter Try.func3, Try.ntmps3
    go_upto_region 8 with (first | (go_at_call 14; (with_reducible refine (laws_b10Long.calls _ _ l0 _ _ l1 false _ ?side1 ?side2 ?side3 ?side4 A3.out).mono ?_); (case side1 => repeat (first | exact HR0.out | (with_reducible refine Kd.C_alloc ?_ _) | (with_reducible refine Kd.C_drewN ?_ _) | (with_reducible refine Kd.C_drew ?_))); (case side2 => exact HC0.out); (case side3 => repeat (first | exact HR1.out | (with_reducible refine Kd.C_alloc ?_ _) | (with_reducible refine Kd.C_drewN ?_ _) | (with_reducible refine Kd.C_drew ?_))); (case side4 => exact HC1.out); rintro e w' ⟨rfl, ⟨nd, rfl⟩⟩; (try first | exact ⟨rfl, _, World.drewN_drewN _ _ _⟩ | exact ⟨rfl, _, Eq.trans (World.drewN_drewN _ _ _) (congrArg (World.drewN _) (Nat.add_assoc _ _ _))⟩)) | (go_at_call 16; (with_reducible refine (spec_B10Losses.calls k _ _ l0 t203 _ ?side1 ?side2 A5.out).mono ?_); (case side1 => repeat (first | exact HR0.out | (with_reducible refine Kd.C_alloc ?_ _) | (with_reducible refine Kd.C_drewN ?_ _) | (with_reducible refine Kd.C_drew ?_))); (case side2 => exact HC0.out); rintro e w13 ⟨v204, rfl, ho0, hb⟩; have n0_ := Aside0.mk (Kd.R_lower ho0 (below_size (by repeat (first | (with_reducible first | exact HB.out | apply below_alloc | apply pw_below_drewN | apply below_drew1) | exact HB.out)))); have n1_ := Aside0.mk (below_step (by repeat (first | (with_reducible first | exact HB.out | apply below_alloc | apply pw_below_drewN | apply below_drew1) | exact HB.out)) hb); clear HB; have HO205 := n0_; have HB := n1_; clear n0_ n1_; (try clear hb); (try clear hb2); (try clear hk); (try clear hi); (try clear ho0); obtain ⟨Ao14, co14, eo14⟩ := Kd.R_slice HO205.out; subst eo14) | (go_at_call 15; (with_reducible refine (impl_SettlementsOf.calls k _ _ t203 t206 t207 _ ?side1 ?side2 A6.out).mono ?_); (case side1 => repeat (first | exact (Kd.R_reads' HO205.out).2.2 | (with_reducible refine Kd.C_alloc ?_ _) | (with_reducible refine Kd.C_drewN ?_ _) | (with_reducible refine Kd.C_drew ?_))); (case side2 => exact (Kd.R_reads' HO205.out).2.1); rintro e w15 ⟨v208, rfl, ho0, hb⟩; have n0_ := Aside0.mk (Kd.R_below (by (with_reducible repeat (first | apply Kd.R_alloc | apply Kd.R_drewN | apply Kd.R_drew)); exact HO205.out) hb); have n1_ := Aside0.mk (Kd.R_lower ho0 (below_size (by repeat (first | (with_reducible first | exact HB.out | apply below_alloc | apply pw_below_drewN | apply below_drew1) | exact HB.out)))); have n2_ := Aside0.mk (below_step (by repeat (first | (with_reducible first | exact HB.out | apply below_alloc | apply pw_below_drewN | apply below_drew1) | exact HB.out)) hb); clear HO205; clear HB; have HO205 := n0_; have HO209 := n1_; have HB := n2_; clear n0_ n1_ n2_; (try clear hb); (try clear hb2); (try clear hk); (try clear hi); (try clear ho0)) | (go_at_call 17; (with_reducible refine (laws_b10At.calls _ _ l1 0 200 t210 _ ?side1 ?side2 A7.out).mono ?_); (case side1 => repeat (first | exact (Kd.C_below HR1.out HB.out) | (with_reducible refine Kd.C_alloc ?_ _) | (with_reducible refine Kd.C_drewN ?_ _) | (with_reducible refine Kd.C_drew ?_))); (case side2 => exact HC1.out); rintro e w' ⟨rfl, ⟨nd, rfl⟩⟩; (try first | exact ⟨rfl, _, World.drewN_drewN _ _ _⟩ | exact ⟨rfl, _, Eq.trans (World.drewN_drewN _ _ _) (congrArg (World.drewN _) (Nat.add_assoc _ _ _))⟩)) | (go_at_call 17; (with_reducible refine (laws_b10At.calls _ _ l1 1 200 t211 _ ?side1 ?side2 A8.out).mono ?_); (case side1 => repeat (first | exact (Kd.C_below HR1.out (by repeat (first | (with_reducible first | exact HB.out | apply below_alloc | apply pw_below_drewN | apply below_drew1) | exact HB.out))) | (with_reducible refine Kd.C_alloc ?_ _) | (with_reducible refine Kd.C_drewN ?_ _) | (with_reducible refine Kd.C_drew ?_))); (case side2 => exact HC1.out); rintro e w' ⟨rfl, ⟨nd, rfl⟩⟩; (try first | exact ⟨rfl, _, World.drewN_drewN _ _ _⟩ | exact ⟨rfl, _, Eq.trans (World.drewN_drewN _ _ _) (congrArg (World.drewN _) (Nat.add_assoc _ _ _))⟩); obtain ⟨Ao16, co16, eo16⟩ := Kd.R_slice HO209.out; subst eo16) | (go_at_call 18; (with_reducible refine (impl_LevelsOf.calls k _ _ t206 (wrap64 (1 + (wrap64 (5 * t210)))) (wrap64 ((wrap64 (1 + (wrap64 (5 * t210)))) + t211)) t212 t213 _ ?side1 ?side2 A9.out).mono ?_); (case side1 => repeat (first | exact (Kd.R_reads' HO209.out).2.2 | (with_reducible refine Kd.C_alloc ?_ _) | (with_reducible refine Kd.C_drewN ?_ _) | (with_reducible refine Kd.C_drew ?_))); (case side2 => exact (Kd.R_reads' HO209.out).2.1); rintro e w17 ⟨v214, rfl, ho0, hb⟩; have n0_ := Aside0.mk (Kd.R_below (by (with_reducible repeat (first | apply Kd.R_alloc | apply Kd.R_drewN | apply Kd.R_drew)); exact HO205.out) hb); have n1_ := Aside0.mk (Kd.R_elder' (by (with_reducible repeat (first | apply Kd.R_alloc | apply Kd.R_drewN | apply Kd.R_drew)); exact HO209.out) (Kd.R_base ho0) hb); have n2_ := Aside0.mk (Kd.R_lower (Kd.R_new' ho0 (Kd.R_lt (by (with_reducible repeat (first | apply Kd.R_alloc | apply Kd.R_drewN | apply Kd.R_drew)); exact HO209.out))) (below_size (by repeat (first | (with_reducible first | exact HB.out | apply below_alloc | apply pw_below_drewN | apply below_drew1) | exact HB.out)))); have n3_ := Aside0.mk (below_step (by repeat (first | (with_reducible first | exact HB.out | apply below_alloc | apply pw_below_drewN | apply below_drew1) | exact HB.out)) hb); clear HO205; clear HO209; clear HB; have HO205 := n0_; have HO209 := n1_; have HO215 := n2_; have HB := n3_; clear n0_ n1_ n2_ n3_; (try clear hb); (try clear hb2); (try clear hk); (try clear hi); (try clear ho0)) | (go_at_call 19; (with_reducible refine (impl_StretchesAt.calls k _ _ t206 (wrap64 (1 + (wrap64 (5 * t210)))) t216 t217 _ ?side1 ?side2 A10.out).mono ?_); (case side1 => repeat (first | exact (Kd.R_reads' HO209.out).2.2 | (with_reducible refine Kd.C_alloc ?_ _) | (with_reducible refine Kd.C_drewN ?_ _) | (with_reducible refine Kd.C_drew ?_))); (case side2 => exact (Kd.R_reads' HO209.out).2.1); rintro e w18 ⟨v218, rfl, ho0, hb⟩; have n0_ := Aside0.mk (Kd.R_below (by (with_reducible repeat (first | apply Kd.R_alloc | apply Kd.R_drewN | apply Kd.R_drew)); exact HO205.out) hb); have n1_ := Aside0.mk (Kd.R_below (by (with_reducible repeat (first | apply Kd.R_alloc | apply Kd.R_drewN | apply Kd.R_drew)); exact HO209.out) hb); have n2_ := Aside0.mk (Kd.R_below (by (with_reducible repeat (first | apply Kd.R_alloc | apply Kd.R_drewN | apply Kd.R_drew)); exact HO215.out) hb); have n3_ := Aside0.mk (Kd.S_lower (Kd.S_new' (Kd.S_new' ho0 (Kd.R_lt (by (with_reducible repeat (first | apply Kd.R_alloc | apply Kd.R_drewN | apply Kd.R_drew)); exact HO209.out))) (Kd.R_lt (by (with_reducible repeat (first | apply Kd.R_alloc | apply Kd.R_drewN | apply Kd.R_drew)); exact HO215.out))) (below_size (by repeat (first | (with_reducible first | exact HB.out | apply below_alloc | apply pw_below_drewN | apply below_drew1) | exact HB.out)))); have n4_ := Aside0.mk (below_step (by repeat (first | (with_reducible first | exact HB.out | apply below_alloc | apply pw_below_drewN | apply below_drew1) | exact HB.out)) hb); clear HO205; clear HO209; clear HO215; clear HB; have HO205 := n0_; have HO209 := n1_; have HO215 := n2_; have HO219 := n3_; have HB := n4_; clear n0_ n1_ n2_ n3_ n4_; (try clear hb); (try clear hb2); (try clear hk); (try clear hi); (try clear ho0)) | (go_at_call 20; (with_reducible refine (impl_SteepestOf.calls k _ _ t206 t220 t221 t222 _ ?side1 ?side2 A11.out).mono ?_); (case side1 => repeat (first | exact (Kd.R_reads' HO209.out).2.2 | (with_reducible refine Kd.C_alloc ?_ _) | (with_reducible refine Kd.C_drewN ?_ _) | (with_reducible refine Kd.C_drew ?_))); (case side2 => exact (Kd.R_reads' HO209.out).2.1); rintro e w19 ⟨rfl, hb⟩; have n0_ := Aside0.mk (Kd.R_below (by (with_reducible repeat (first | apply Kd.R_alloc | apply Kd.R_drewN | apply Kd.R_drew)); exact HO205.out) hb); have n1_ := Aside0.mk (Kd.R_below (by (with_reducible repeat (first | apply Kd.R_alloc | apply Kd.R_drewN | apply Kd.R_drew)); exact HO209.out) hb); have n2_ := Aside0.mk (Kd.R_below (by (with_reducible repeat (first | apply Kd.R_alloc | apply Kd.R_drewN | apply Kd.R_drew)); exact HO215.out) hb); have n3_ := Aside0.mk (Kd.S_below (by (with_reducible repeat (first | apply Kd.S_alloc | apply Kd.S_drewN | apply Kd.S_drew)); exact HO219.out) hb); have n4_ := Aside0.mk (below_step (by repeat (first | (with_reducible first | exact HB.out | apply below_alloc | apply pw_below_drewN | apply below_drew1) | exact HB.out)) hb); clear HO205; clear HO209; clear HO215; clear HO219; clear HB; have HO205 := n0_; have HO209 := n1_; have HO215 := n2_; have HO219 := n3_; have HB := n4_; clear n0_ n1_ n2_ n3_ n4_; (try clear hb); (try clear hb2); (try clear hk); (try clear hi)))
    repeat (go_quiet (first | (go_at_call 14; (with_reducible refine (laws_b10Long.calls _ _ l0 _ _ l1 false _ ?side1 ?side2 ?side3 ?side4 A3.out).mono ?_); (case side1 => repeat (first | exact HR0.out | (with_reducible refine Kd.C_alloc ?_ _) | (with_reducible refine Kd.C_drewN ?_ _) | (with_reducible refine Kd.C_drew ?_))); (case side2 => exact HC0.out); (case side3 => repeat (first | exact HR1.out | (with_reducible refine Kd.C_alloc ?_ _) | (with_reducible refine Kd.C_drewN ?_ _) | (with_reducible refine Kd.C_drew ?_))); (case side4 => exact HC1.out); rintro e w' ⟨rfl, ⟨nd, rfl⟩⟩; (try first | exact ⟨rfl, _, World.drewN_drewN _ _ _⟩ | exact ⟨rfl, _, Eq.trans (World.drewN_drewN _ _ _) (congrArg (World.drewN _) (Nat.add_assoc _ _ _))⟩)) | (go_at_call 16; (with_reducible refine (spec_B10Losses.calls k _ _ l0 t203 _ ?side1 ?side2 A5.out).mono ?_); (case side1 => repeat (first | exact HR0.out | (with_reducible refine Kd.C_alloc ?_ _) | (with_reducible refine Kd.C_drewN ?_ _) | (with_reducible refine Kd.C_drew ?_))); (case side2 => exact HC0.out); rintro e w13 ⟨v204, rfl, ho0, hb⟩; have n0_ := Aside0.mk (Kd.R_lower ho0 (below_size (by repeat (first | (with_reducible first | exact HB.out | apply below_alloc | apply pw_below_drewN | apply below_drew1) | exact HB.out)))); have n1_ := Aside0.mk (below_step (by repeat (first | (with_reducible first | exact HB.out | apply below_alloc | apply pw_below_drewN | apply below_drew1) | exact HB.out)) hb); clear HB; have HO205 := n0_; have HB := n1_; clear n0_ n1_; (try clear hb); (try clear hb2); (try clear hk); (try clear hi); (try clear ho0); obtain ⟨Ao14, co14, eo14⟩ := Kd.R_slice HO205.out; subst eo14) | (go_at_call 15; (with_reducible refine (impl_SettlementsOf.calls k _ _ t203 t206 t207 _ ?side1 ?side2 A6.out).mono ?_); (case side1 => repeat (first | exact (Kd.R_reads' HO205.out).2.2 | (with_reducible refine Kd.C_alloc ?_ _) | (with_reducible refine Kd.C_drewN ?_ _) | (with_reducible refine Kd.C_drew ?_))); (case side2 => exact (Kd.R_reads' HO205.out).2.1); rintro e w15 ⟨v208, rfl, ho0, hb⟩; have n0_ := Aside0.mk (Kd.R_below (by (with_reducible repeat (first | apply Kd.R_alloc | apply Kd.R_drewN | apply Kd.R_drew)); exact HO205.out) hb); have n1_ := Aside0.mk (Kd.R_lower ho0 (below_size (by repeat (first | (with_reducible first | exact HB.out | apply below_alloc | apply pw_below_drewN | apply below_drew1) | exact HB.out)))); have n2_ := Aside0.mk (below_step (by repeat (first | (with_reducible first | exact HB.out | apply below_alloc | apply pw_below_drewN | apply below_drew1) | exact HB.out)) hb); clear HO205; clear HB; have HO205 := n0_; have HO209 := n1_; have HB := n2_; clear n0_ n1_ n2_; (try clear hb); (try clear hb2); (try clear hk); (try clear hi); (try clear ho0)) | (go_at_call 17; (with_reducible refine (laws_b10At.calls _ _ l1 0 200 t210 _ ?side1 ?side2 A7.out).mono ?_); (case side1 => repeat (first | exact (Kd.C_below HR1.out HB.out) | (with_reducible refine Kd.C_alloc ?_ _) | (with_reducible refine Kd.C_drewN ?_ _) | (with_reducible refine Kd.C_drew ?_))); (case side2 => exact HC1.out); rintro e w' ⟨rfl, ⟨nd, rfl⟩⟩; (try first | exact ⟨rfl, _, World.drewN_drewN _ _ _⟩ | exact ⟨rfl, _, Eq.trans (World.drewN_drewN _ _ _) (congrArg (World.drewN _) (Nat.add_assoc _ _ _))⟩)) | (go_at_call 17; (with_reducible refine (laws_b10At.calls _ _ l1 1 200 t211 _ ?side1 ?side2 A8.out).mono ?_); (case side1 => repeat (first | exact (Kd.C_below HR1.out (by repeat (first | (with_reducible first | exact HB.out | apply below_alloc | apply pw_below_drewN | apply below_drew1) | exact HB.out))) | (with_reducible refine Kd.C_alloc ?_ _) | (with_reducible refine Kd.C_drewN ?_ _) | (with_reducible refine Kd.C_drew ?_))); (case side2 => exact HC1.out); rintro e w' ⟨rfl, ⟨nd, rfl⟩⟩; (try first | exact ⟨rfl, _, World.drewN_drewN _ _ _⟩ | exact ⟨rfl, _, Eq.trans (World.drewN_drewN _ _ _) (congrArg (World.drewN _) (Nat.add_assoc _ _ _))⟩); obtain ⟨Ao16, co16, eo16⟩ := Kd.R_slice HO209.out; subst eo16) | (go_at_call 18; (with_reducible refine (impl_LevelsOf.calls k _ _ t206 (wrap64 (1 + (wrap64 (5 * t210)))) (wrap64 ((wrap64 (1 + (wrap64 (5 * t210)))) + t211)) t212 t213 _ ?side1 ?side2 A9.out).mono ?_); (case side1 => repeat (first | exact (Kd.R_reads' HO209.out).2.2 | (with_reducible refine Kd.C_alloc ?_ _) | (with_reducible refine Kd.C_drewN ?_ _) | (with_reducible refine Kd.C_drew ?_))); (case side2 => exact (Kd.R_reads' HO209.out).2.1); rintro e w17 ⟨v214, rfl, ho0, hb⟩; have n0_ := Aside0.mk (Kd.R_below (by (with_reducible repeat (first | apply Kd.R_alloc | apply Kd.R_drewN | apply Kd.R_drew)); exact HO205.out) hb); have n1_ := Aside0.mk (Kd.R_elder' (by (with_reducible repeat (first | apply Kd.R_alloc | apply Kd.R_drewN | apply Kd.R_drew)); exact HO209.out) (Kd.R_base ho0) hb); have n2_ := Aside0.mk (Kd.R_lower (Kd.R_new' ho0 (Kd.R_lt (by (with_reducible repeat (first | apply Kd.R_alloc | apply Kd.R_drewN | apply Kd.R_drew)); exact HO209.out))) (below_size (by repeat (first | (with_reducible first | exact HB.out | apply below_alloc | apply pw_below_drewN | apply below_drew1) | exact HB.out)))); have n3_ := Aside0.mk (below_step (by repeat (first | (with_reducible first | exact HB.out | apply below_alloc | apply pw_below_drewN | apply below_drew1) | exact HB.out)) hb); clear HO205; clear HO209; clear HB; have HO205 := n0_; have HO209 := n1_; have HO215 := n2_; have HB := n3_; clear n0_ n1_ n2_ n3_; (try clear hb); (try clear hb2); (try clear hk); (try clear hi); (try clear ho0)) | (go_at_call 19; (with_reducible refine (impl_StretchesAt.calls k _ _ t206 (wrap64 (1 + (wrap64 (5 * t210)))) t216 t217 _ ?side1 ?side2 A10.out).mono ?_); (case side1 => repeat (first | exact (Kd.R_reads' HO209.out).2.2 | (with_reducible refine Kd.C_alloc ?_ _) | (with_reducible refine Kd.C_drewN ?_ _) | (with_reducible refine Kd.C_drew ?_))); (case side2 => exact (Kd.R_reads' HO209.out).2.1); rintro e w18 ⟨v218, rfl, ho0, hb⟩; have n0_ := Aside0.mk (Kd.R_below (by (with_reducible repeat (first | apply Kd.R_alloc | apply Kd.R_drewN | apply Kd.R_drew)); exact HO205.out) hb); have n1_ := Aside0.mk (Kd.R_below (by (with_reducible repeat (first | apply Kd.R_alloc | apply Kd.R_drewN | apply Kd.R_drew)); exact HO209.out) hb); have n2_ := Aside0.mk (Kd.R_below (by (with_reducible repeat (first | apply Kd.R_alloc | apply Kd.R_drewN | apply Kd.R_drew)); exact HO215.out) hb); have n3_ := Aside0.mk (Kd.S_lower (Kd.S_new' (Kd.S_new' ho0 (Kd.R_lt (by (with_reducible repeat (first | apply Kd.R_alloc | apply Kd.R_drewN | apply Kd.R_drew)); exact HO209.out))) (Kd.R_lt (by (with_reducible repeat (first | apply Kd.R_alloc | apply Kd.R_drewN | apply Kd.R_drew)); exact HO215.out))) (below_size (by repeat (first | (with_reducible first | exact HB.out | apply below_alloc | apply pw_below_drewN | apply below_drew1) | exact HB.out)))); have n4_ := Aside0.mk (below_step (by repeat (first | (with_reducible first | exact HB.out | apply below_alloc | apply pw_below_drewN | apply below_drew1) | exact HB.out)) hb); clear HO205; clear HO209; clear HO215; clear HB; have HO205 := n0_; have HO209 := n1_; have HO215 := n2_; have HO219 := n3_; have HB := n4_; clear n0_ n1_ n2_ n3_ n4_; (try clear hb); (try clear hb2); (try clear hk); (try clear hi); (try clear ho0)) | (go_at_call 20; (with_reducible refine (impl_SteepestOf.calls k _ _ t206 t220 t221 t222 _ ?side1 ?side2 A11.out).mono ?_); (case side1 => repeat (first | exact (Kd.R_reads' HO209.out).2.2 | (with_reducible refine Kd.C_alloc ?_ _) | (with_reducible refine Kd.C_drewN ?_ _) | (with_reducible refine Kd.C_drew ?_))); (case side2 => exact (Kd.R_reads' HO209.out).2.1); rintro e w19 ⟨rfl, hb⟩; have n0_ := Aside0.mk (Kd.R_below (by (with_reducible repeat (first | apply Kd.R_alloc | apply Kd.R_drewN | apply Kd.R_drew)); exact HO205.out) hb); have n1_ := Aside0.mk (Kd.R_below (by (with_reducible repeat (first | apply Kd.R_alloc | apply Kd.R_drewN | apply Kd.R_drew)); exact HO209.out) hb); have n2_ := Aside0.mk (Kd.R_below (by (with_reducible repeat (first | apply Kd.R_alloc | apply Kd.R_drewN | apply Kd.R_drew)); exact HO215.out) hb); have n3_ := Aside0.mk (Kd.S_below (by (with_reducible repeat (first | apply Kd.S_alloc | apply Kd.S_drewN | apply Kd.S_drew)); exact HO219.out) hb); have n4_ := Aside0.mk (below_step (by repeat (first | (with_reducible first | exact HB.out | apply below_alloc | apply pw_below_drewN | apply below_drew1) | exact HB.out)) hb); clear HO205; clear HO209; clear HO215; clear HO219; clear HB; have HO205 := n0_; have HO209 := n1_; have HO215 := n2_; have HO219 := n3_; have HB := n4_; clear n0_ n1_ n2_ n3_ n4_; (try clear hb); (try clear hb2); (try clear hk); (try clear hi))); go_upto_region 8 with (first | (go_at_call 14; (with_reducible refine (laws_b10Long.calls _ _ l0 _ _ l1 false _ ?side1 ?side2 ?side3 ?side4 A3.out).mono ?_); (case side1 => repeat (first | exact HR0.out | (with_reducible refine Kd.C_alloc ?_ _) | (with_reducible refine Kd.C_drewN ?_ _) | (with_reducible refine Kd.C_drew ?_))); (case side2 => exact HC0.out); (case side3 => repeat (first | exact HR1.out | (with_reducible refine Kd.C_alloc ?_ _) | (with_reducible refine Kd.C_drewN ?_ _) | (with_reducible refine Kd.C_drew ?_))); (case side4 => exact HC1.out); rintro e w' ⟨rfl, ⟨nd, rfl⟩⟩; (try first | exact ⟨rfl, _, World.drewN_drewN _ _ _⟩ | exact ⟨rfl, _, Eq.trans (World.drewN_drewN _ _ _) (congrArg (World.drewN _) (Nat.add_assoc _ _ _))⟩)) | (go_at_call 16; (with_reducible refine (spec_B10Losses.calls k _ _ l0 t203 _ ?side1 ?side2 A5.out).mono ?_); (case side1 => repeat (first | exact HR0.out | (with_reducible refine Kd.C_alloc ?_ _) | (with_reducible refine Kd.C_drewN ?_ _) | (with_reducible refine Kd.C_drew ?_))); (case side2 => exact HC0.out); rintro e w13 ⟨v204, rfl, ho0, hb⟩; have n0_ := Aside0.mk (Kd.R_lower ho0 (below_size (by repeat (first | (with_reducible first | exact HB.out | apply below_alloc | apply pw_below_drewN | apply below_drew1) | exact HB.out)))); have n1_ := Aside0.mk (below_step (by repeat (first | (with_reducible first | exact HB.out | apply below_alloc | apply pw_below_drewN | apply below_drew1) | exact HB.out)) hb); clear HB; have HO205 := n0_; have HB := n1_; clear n0_ n1_; (try clear hb); (try clear hb2); (try clear hk); (try clear hi); (try clear ho0); obtain ⟨Ao14, co14, eo14⟩ := Kd.R_slice HO205.out; subst eo14) | (go_at_call 15; (with_reducible refine (impl_SettlementsOf.calls k _ _ t203 t206 t207 _ ?side1 ?side2 A6.out).mono ?_); (case side1 => repeat (first | exact (Kd.R_reads' HO205.out).2.2 | (with_reducible refine Kd.C_alloc ?_ _) | (with_reducible refine Kd.C_drewN ?_ _) | (with_reducible refine Kd.C_drew ?_))); (case side2 => exact (Kd.R_reads' HO205.out).2.1); rintro e w15 ⟨v208, rfl, ho0, hb⟩; have n0_ := Aside0.mk (Kd.R_below (by (with_reducible repeat (first | apply Kd.R_alloc | apply Kd.R_drewN | apply Kd.R_drew)); exact HO205.out) hb); have n1_ := Aside0.mk (Kd.R_lower ho0 (below_size (by repeat (first | (with_reducible first | exact HB.out | apply below_alloc | apply pw_below_drewN | apply below_drew1) | exact HB.out)))); have n2_ := Aside0.mk (below_step (by repeat (first | (with_reducible first | exact HB.out | apply below_alloc | apply pw_below_drewN | apply below_drew1) | exact HB.out)) hb); clear HO205; clear HB; have HO205 := n0_; have HO209 := n1_; have HB := n2_; clear n0_ n1_ n2_; (try clear hb); (try clear hb2); (try clear hk); (try clear hi); (try clear ho0)) | (go_at_call 17; (with_reducible refine (laws_b10At.calls _ _ l1 0 200 t210 _ ?side1 ?side2 A7.out).mono ?_); (case side1 => repeat (first | exact (Kd.C_below HR1.out HB.out) | (with_reducible refine Kd.C_alloc ?_ _) | (with_reducible refine Kd.C_drewN ?_ _) | (with_reducible refine Kd.C_drew ?_))); (case side2 => exact HC1.out); rintro e w' ⟨rfl, ⟨nd, rfl⟩⟩; (try first | exact ⟨rfl, _, World.drewN_drewN _ _ _⟩ | exact ⟨rfl, _, Eq.trans (World.drewN_drewN _ _ _) (congrArg (World.drewN _) (Nat.add_assoc _ _ _))⟩)) | (go_at_call 17; (with_reducible refine (laws_b10At.calls _ _ l1 1 200 t211 _ ?side1 ?side2 A8.out).mono ?_); (case side1 => repeat (first | exact (Kd.C_below HR1.out (by repeat (first | (with_reducible first | exact HB.out | apply below_alloc | apply pw_below_drewN | apply below_drew1) | exact HB.out))) | (with_reducible refine Kd.C_alloc ?_ _) | (with_reducible refine Kd.C_drewN ?_ _) | (with_reducible refine Kd.C_drew ?_))); (case side2 => exact HC1.out); rintro e w' ⟨rfl, ⟨nd, rfl⟩⟩; (try first | exact ⟨rfl, _, World.drewN_drewN _ _ _⟩ | exact ⟨rfl, _, Eq.trans (World.drewN_drewN _ _ _) (congrArg (World.drewN _) (Nat.add_assoc _ _ _))⟩); obtain ⟨Ao16, co16, eo16⟩ := Kd.R_slice HO209.out; subst eo16) | (go_at_call 18; (with_reducible refine (impl_LevelsOf.calls k _ _ t206 (wrap64 (1 + (wrap64 (5 * t210)))) (wrap64 ((wrap64 (1 + (wrap64 (5 * t210)))) + t211)) t212 t213 _ ?side1 ?side2 A9.out).mono ?_); (case side1 => repeat (first | exact (Kd.R_reads' HO209.out).2.2 | (with_reducible refine Kd.C_alloc ?_ _) | (with_reducible refine Kd.C_drewN ?_ _) | (with_reducible refine Kd.C_drew ?_))); (case side2 => exact (Kd.R_reads' HO209.out).2.1); rintro e w17 ⟨v214, rfl, ho0, hb⟩; have n0_ := Aside0.mk (Kd.R_below (by (with_reducible repeat (first | apply Kd.R_alloc | apply Kd.R_drewN | apply Kd.R_drew)); exact HO205.out) hb); have n1_ := Aside0.mk (Kd.R_elder' (by (with_reducible repeat (first | apply Kd.R_alloc | apply Kd.R_drewN | apply Kd.R_drew)); exact HO209.out) (Kd.R_base ho0) hb); have n2_ := Aside0.mk (Kd.R_lower (Kd.R_new' ho0 (Kd.R_lt (by (with_reducible repeat (first | apply Kd.R_alloc | apply Kd.R_drewN | apply Kd.R_drew)); exact HO209.out))) (below_size (by repeat (first | (with_reducible first | exact HB.out | apply below_alloc | apply pw_below_drewN | apply below_drew1) | exact HB.out)))); have n3_ := Aside0.mk (below_step (by repeat (first | (with_reducible first | exact HB.out | apply below_alloc | apply pw_below_drewN | apply below_drew1) | exact HB.out)) hb); clear HO205; clear HO209; clear HB; have HO205 := n0_; have HO209 := n1_; have HO215 := n2_; have HB := n3_; clear n0_ n1_ n2_ n3_; (try clear hb); (try clear hb2); (try clear hk); (try clear hi); (try clear ho0)) | (go_at_call 19; (with_reducible refine (impl_StretchesAt.calls k _ _ t206 (wrap64 (1 + (wrap64 (5 * t210)))) t216 t217 _ ?side1 ?side2 A10.out).mono ?_); (case side1 => repeat (first | exact (Kd.R_reads' HO209.out).2.2 | (with_reducible refine Kd.C_alloc ?_ _) | (with_reducible refine Kd.C_drewN ?_ _) | (with_reducible refine Kd.C_drew ?_))); (case side2 => exact (Kd.R_reads' HO209.out).2.1); rintro e w18 ⟨v218, rfl, ho0, hb⟩; have n0_ := Aside0.mk (Kd.R_below (by (with_reducible repeat (first | apply Kd.R_alloc | apply Kd.R_drewN | apply Kd.R_drew)); exact HO205.out) hb); have n1_ := Aside0.mk (Kd.R_below (by (with_reducible repeat (first | apply Kd.R_alloc | apply Kd.R_drewN | apply Kd.R_drew)); exact HO209.out) hb); have n2_ := Aside0.mk (Kd.R_below (by (with_reducible repeat (first | apply Kd.R_alloc | apply Kd.R_drewN | apply Kd.R_drew)); exact HO215.out) hb); have n3_ := Aside0.mk (Kd.S_lower (Kd.S_new' (Kd.S_new' ho0 (Kd.R_lt (by (with_reducible repeat (first | apply Kd.R_alloc | apply Kd.R_drewN | apply Kd.R_drew)); exact HO209.out))) (Kd.R_lt (by (with_reducible repeat (first | apply Kd.R_alloc | apply Kd.R_drewN | apply Kd.R_drew)); exact HO215.out))) (below_size (by repeat (first | (with_reducible first | exact HB.out | apply below_alloc | apply pw_below_drewN | apply below_drew1) | exact HB.out)))); have n4_ := Aside0.mk (below_step (by repeat (first | (with_reducible first | exact HB.out | apply below_alloc | apply pw_below_drewN | apply below_drew1) | exact HB.out)) hb); clear HO205; clear HO209; clear HO215; clear HB; have HO205 := n0_; have HO209 := n1_; have HO215 := n2_; have HO219 := n3_; have HB := n4_; clear n0_ n1_ n2_ n3_ n4_; (try clear hb); (try clear hb2); (try clear hk); (try clear hi); (try clear ho0)) | (go_at_call 20; (with_reducible refine (impl_SteepestOf.calls k _ _ t206 t220 t221 t222 _ ?side1 ?side2 A11.out).mono ?_); (case side1 => repeat (first | exact (Kd.R_reads' HO209.out).2.2 | (with_reducible refine Kd.C_alloc ?_ _) | (with_reducible refine Kd.C_drewN ?_ _) | (with_reducible refine Kd.C_drew ?_))); (case side2 => exact (Kd.R_reads' HO209.out).2.1); rintro e w19 ⟨rfl, hb⟩; have n0_ := Aside0.mk (Kd.R_below (by (with_reducible repeat (first | apply Kd.R_alloc | apply Kd.R_drewN | apply Kd.R_drew)); exact HO205.out) hb); have n1_ := Aside0.mk (Kd.R_below (by (with_reducible repeat (first | apply Kd.R_alloc | apply Kd.R_drewN | apply Kd.R_drew)); exact HO209.out) hb); have n2_ := Aside0.mk (Kd.R_below (by (with_reducible repeat (first | apply Kd.R_alloc | apply Kd.R_drewN | apply Kd.R_drew)); exact HO215.out) hb); have n3_ := Aside0.mk (Kd.S_below (by (with_reducible repeat (first | apply Kd.S_alloc | apply Kd.S_drewN | apply Kd.S_drew)); exact HO219.out) hb); have n4_ := Aside0.mk (below_step (by repeat (first | (with_reducible first | exact HB.out | apply below_alloc | apply pw_below_drewN | apply below_drew1) | exact HB.out)) hb); clear HO205; clear HO209; clear HO215; clear HO219; clear HB; have HO205 := n0_; have HO209 := n1_; have HO215 := n2_; have HO219 := n3_; have HB := n4_; clear n0_ n1_ n2_ n3_ n4_; (try clear hb); (try clear hb2); (try clear hk); (try clear hi))))
    (try simp only [Act.put, List.setIfInBounds_toArray, List.set_cons_zero, List.set_cons_succ])
    go_cut [85] (fun v85 wc => ∃ (kq : Nat) (x85_11 : Bool), v85 = .bool x85_11 ∧ Aside0 (laws_FnWatched.j0 kq t206 (wrap64 (1 + (wrap64 (5 * t210)))) t212 t216 t220 t221 x85_11 = some r) ∧ Aside0 (kq ≤ k) ∧ Aside0 (Kd.R (Kd.int .i64) 2 wc w.heap.size (fun k_ => some k_ ≠ (v214 : Value).ownBlock) (.slice Ao16 t206.length co16) t206) ∧ Aside0 (Kd.R (Kd.int .i64) 2 wc w.heap.size (fun k_ => some k_ ≠ ((.slice Ao16 t206.length co16) : Value).ownBlock) v214 t212) ∧ Aside0 (Kd.S (Kd.slice 2 (Kd.int .i64)) 24 wc w.heap.size (fun k_ => some k_ ≠ ((.slice Ao16 t206.length co16) : Value).ownBlock ∧ some k_ ≠ (v214 : Value).ownBlock) v218 t216) ∧ Aside0 (Below w.heap.size w wc))
    case first =>
      have H := HC12.out
      clear HC12
      by_cases c20 : t207 = true
      · subst c20
        have H1 : (if t213 = true then (if t217 = true then (if t222 = true then (if (t206.length : Int) = 24 then (if (t212.length : Int) = 24 then (if t220 < 0 then (laws_FnWatched.j0 k t206 (wrap64 (1 + (wrap64 (5 * t210)))) t212 t216 t220 t221 true) else (laws_FnWatched.j0 k t206 (wrap64 (1 + (wrap64 (5 * t210)))) t212 t216 t220 t221 (decide ((wrap64 (t220 + 1)) ≥ 24)))) else (laws_FnWatched.j0 k t206 (wrap64 (1 + (wrap64 (5 * t210)))) t212 t216 t220 t221 true)) else (laws_FnWatched.j0 k t206 (wrap64 (1 + (wrap64 (5 * t210)))) t212 t216 t220 t221 true)) else (laws_FnWatched.j0 k t206 (wrap64 (1 + (wrap64 (5 * t210)))) t212 t216 t220 t221 true)) else (laws_FnWatched.j0 k t206 (wrap64 (1 + (wrap64 (5 * t210)))) t212 t216 t220 t221 true)) else (laws_FnWatched.j0 k t206 (wrap64 (1 + (wrap64 (5 * t210)))) t212 t216 t220 t221 true)) = some r := by rw [if_pos rfl] at H; exact H
        clear H
        have H := H1
        clear H1
        by_cases c21 : t213 = true
        · subst c21
          have H1 : (if t217 = true then (if t222 = true then (if (t206.length : Int) = 24 then (if (t212.length : Int) = 24 then (if t220 < 0 then (laws_FnWatched.j0 k t206 (wrap64 (1 + (wrap64 (5 * t210)))) t212 t216 t220 t221 true) else (laws_FnWatched.j0 k t206 (wrap64 (1 + (wrap64 (5 * t210)))) t212 t216 t220 t221 (decide ((wrap64 (t220 + 1)) ≥ 24)))) else (laws_FnWatched.j0 k t206 (wrap64 (1 + (wrap64 (5 * t210)))) t212 t216 t220 t221 true)) else (laws_FnWatched.j0 k t206 (wrap64 (1 + (wrap64 (5 * t210)))) t212 t216 t220 t221 true)) else (laws_FnWatched.j0 k t206 (wrap64 (1 + (wrap64 (5 * t210)))) t212 t216 t220 t221 true)) else (laws_FnWatched.j0 k t206 (wrap64 (1 + (wrap64 (5 * t210)))) t212 t216 t220 t221 true)) = some r := by rw [if_pos rfl] at H; exact H
          clear H
          have H := H1
          clear H1
          by_cases c22 : t217 = true
          · subst c22
            have H1 : (if t222 = true then (if (t206.length : Int) = 24 then (if (t212.length : Int) = 24 then (if t220 < 0 then (laws_FnWatched.j0 k t206 (wrap64 (1 + (wrap64 (5 * t210)))) t212 t216 t220 t221 true) else (laws_FnWatched.j0 k t206 (wrap64 (1 + (wrap64 (5 * t210)))) t212 t216 t220 t221 (decide ((wrap64 (t220 + 1)) ≥ 24)))) else (laws_FnWatched.j0 k t206 (wrap64 (1 + (wrap64 (5 * t210)))) t212 t216 t220 t221 true)) else (laws_FnWatched.j0 k t206 (wrap64 (1 + (wrap64 (5 * t210)))) t212 t216 t220 t221 true)) else (laws_FnWatched.j0 k t206 (wrap64 (1 + (wrap64 (5 * t210)))) t212 t216 t220 t221 true)) = some r := by rw [if_pos rfl] at H; exact H
            clear H
            have H := H1
            clear H1
            by_cases c23 : t222 = true
            · subst c23
              have H1 : (if (t206.length : Int) = 24 then (if (t212.length : Int) = 24 then (if t220 < 0 then (laws_FnWatched.j0 k t206 (wrap64 (1 + (wrap64 (5 * t210)))) t212 t216 t220 t221 true) else (laws_FnWatched.j0 k t206 (wrap64 (1 + (wrap64 (5 * t210)))) t212 t216 t220 t221 (decide ((wrap64 (t220 + 1)) ≥ 24)))) else (laws_FnWatched.j0 k t206 (wrap64 (1 + (wrap64 (5 * t210)))) t212 t216 t220 t221 true)) else (laws_FnWatched.j0 k t206 (wrap64 (1 + (wrap64 (5 * t210)))) t212 t216 t220 t221 true)) = some r := by rw [if_pos rfl] at H; exact H
              clear H
              have H := H1
              clear H1
              by_cases c24 : (t206.length : Int) = 24
              · rw [if_pos c24] at H
                have c24b0 : ((t206.length : Int) == 24) = true := beq_iff_eq.mpr c24
                have c24b1 : ((t206.length : Int) != 24) = false := bne_eq_false_iff_eq.mpr c24
                clear c24
                (first | rw [c24b0] | (simp only [i64_w, i32_w]; rw [c24b0]) | skip)
                by_cases c25 : (t212.length : Int) = 24
                · rw [if_pos c25] at H
                  have c25b0 : ((t212.length : Int) == 24) = true := beq_iff_eq.mpr c25
                  have c25b1 : ((t212.length : Int) != 24) = false := bne_eq_false_iff_eq.mpr c25
                  clear c25
                  by_cases c26 : t220 < 0
                  · rw [if_pos c26] at H
                    have c26b0 : decide (t220 < 0) = true := decide_eq_true c26
                    clear c26
                    have H' := Aside0.mk H
                    clear H
                    obtain ⟨Ao27, co27, eo27⟩ := Kd.R_slice HO215.out
                    subst eo27
                    go_wp2
                    repeat (go_quiet (fail); try go_wp2)
                    go_meet
                    case rel => exact ⟨_, (true), (by first | rfl | (simp; done) | (simp [*]; done) | (simp [Int.tdiv_eq_ediv_of_nonneg, *]; done)), H', ⟨by first | omega | exact Nat.le_refl _⟩, ⟨by (with_reducible repeat (first | apply Kd.R_alloc | apply Kd.R_drewN | apply Kd.R_drew)); exact Kd.R_mono HO209.out (fun _ hk => hk.2)⟩, ⟨by (with_reducible repeat (first | apply Kd.R_alloc | apply Kd.R_drewN | apply Kd.R_drew)); exact Kd.R_mono HO215.out (fun _ hk => hk.2)⟩, ⟨by (with_reducible repeat (first | apply Kd.S_alloc | apply Kd.S_drewN | apply Kd.S_drew)); exact Kd.S_mono HO219.out (fun _ hk => ⟨hk.1.2, hk.2⟩)⟩, ⟨by repeat (first | (with_reducible first | exact HB.out | apply below_alloc | apply pw_below_drewN | apply below_drew1) | exact HB.out)⟩⟩
                  · rw [if_neg c26] at H
                    have c26b0 : decide (t220 < 0) = false := decide_eq_false c26
                    clear c26
                    have H' := Aside0.mk H
                    clear H
                    obtain ⟨Ao28, co28, eo28⟩ := Kd.R_slice HO215.out
                    subst eo28
                    go_wp2
                    repeat (go_quiet (fail); try go_wp2)
                    go_meet
                    case rel => exact ⟨_, (decide ((wrap64 (t220 + 1)) ≥ 24)), (by first | rfl | (simp; done) | (simp [*]; done) | (simp [Int.tdiv_eq_ediv_of_nonneg, *]; done)), H', ⟨by first | omega | exact Nat.le_refl _⟩, ⟨by (with_reducible repeat (first | apply Kd.R_alloc | apply Kd.R_drewN | apply Kd.R_drew)); exact Kd.R_mono HO209.out (fun _ hk => hk.2)⟩, ⟨by (with_reducible repeat (first | apply Kd.R_alloc | apply Kd.R_drewN | apply Kd.R_drew)); exact Kd.R_mono HO215.out (fun _ hk => hk.2)⟩, ⟨by (with_reducible repeat (first | apply Kd.S_alloc | apply Kd.S_drewN | apply Kd.S_drew)); exact Kd.S_mono HO219.out (fun _ hk => ⟨hk.1.2, hk.2⟩)⟩, ⟨by repeat (first | (with_reducible first | exact HB.out | apply below_alloc | apply pw_below_drewN | apply below_drew1) | exact HB.out)⟩⟩
                · rw [if_neg c25] at H
                  have c25b0 : ((t212.length : Int) == 24) = false := beq_eq_false_iff_ne.mpr c25
                  have c25b1 : ((t212.length : Int) != 24) = true := bne_iff_ne.mpr c25
                  have H' := Aside0.mk H
                  clear H
                  obtain ⟨Ao29, co29, eo29⟩ := Kd.R_slice HO215.out
                  subst eo29
                  go_wp2
                  repeat (go_quiet (fail); try go_wp2)
                  go_meet
                  case rel => exact ⟨_, (true), (by first | rfl | (simp; done) | (simp [*]; done) | (simp [Int.tdiv_eq_ediv_of_nonneg, *]; done)), H', ⟨by first | omega | exact Nat.le_refl _⟩, ⟨by (with_reducible repeat (first | apply Kd.R_alloc | apply Kd.R_drewN | apply Kd.R_drew)); exact Kd.R_mono HO209.out (fun _ hk => hk.2)⟩, ⟨by (with_reducible repeat (first | apply Kd.R_alloc | apply Kd.R_drewN | apply Kd.R_drew)); exact Kd.R_mono HO215.out (fun _ hk => hk.2)⟩, ⟨by (with_reducible repeat (first | apply Kd.S_alloc | apply Kd.S_drewN | apply Kd.S_drew)); exact Kd.S_mono HO219.out (fun _ hk => ⟨hk.1.2, hk.2⟩)⟩, ⟨by repeat (first | (with_reducible first | exact HB.out | apply below_alloc | apply pw_below_drewN | apply below_drew1) | exact HB.out)⟩⟩
              · rw [if_neg c24] at H
                have c24b0 : ((t206.length : Int) == 24) = false := beq_eq_false_iff_ne.mpr c24
                have c24b1 : ((t206.length : Int) != 24) = true := bne_iff_ne.mpr c24
                (first | rw [c24b0] | (simp only [i64_w, i32_w]; rw [c24b0]) | skip)
                have H' := Aside0.mk H
                clear H
                go_wp2
                repeat (go_quiet (fail); try go_wp2)
                go_meet
                case rel => exact ⟨_, (true), (by first | rfl | (simp; done) | (simp [*]; done) | (simp [Int.tdiv_eq_ediv_of_nonneg, *]; done)), H', ⟨by first | omega | exact Nat.le_refl _⟩, ⟨by (with_reducible repeat (first | apply Kd.R_alloc | apply Kd.R_drewN | apply Kd.R_drew)); exact Kd.R_mono HO209.out (fun _ hk => hk.2)⟩, ⟨by (with_reducible repeat (first | apply Kd.R_alloc | apply Kd.R_drewN | apply Kd.R_drew)); exact Kd.R_mono HO215.out (fun _ hk => hk.2)⟩, ⟨by (with_reducible repeat (first | apply Kd.S_alloc | apply Kd.S_drewN | apply Kd.S_drew)); exact Kd.S_mono HO219.out (fun _ hk => ⟨hk.1.2, hk.2⟩)⟩, ⟨by repeat (first | (with_reducible first | exact HB.out | apply below_alloc | apply pw_below_drewN | apply below_drew1) | exact HB.out)⟩⟩
            · replace c23 := Bool.eq_false_iff.mpr c23
              subst c23
              have H1 : (laws_FnWatched.j0 k t206 (wrap64 (1 + (wrap64 (5 * t210)))) t212 t216 t220 t221 true) = some r := by rw [if_neg (show ¬ (false = true) by decide)] at H; exact H
              clear H
              have H := H1
              clear H1
              have H' := Aside0.mk H
              clear H
              go_wp2
              repeat (go_quiet (fail); try go_wp2)
              go_meet
              case rel => exact ⟨_, (true), (by first | rfl | (simp; done) | (simp [*]; done) | (simp [Int.tdiv_eq_ediv_of_nonneg, *]; done)), H', ⟨by first | omega | exact Nat.le_refl _⟩, ⟨by (with_reducible repeat (first | apply Kd.R_alloc | apply Kd.R_drewN | apply Kd.R_drew)); exact Kd.R_mono HO209.out (fun _ hk => hk.2)⟩, ⟨by (with_reducible repeat (first | apply Kd.R_alloc | apply Kd.R_drewN | apply Kd.R_drew)); exact Kd.R_mono HO215.out (fun _ hk => hk.2)⟩, ⟨by (with_reducible repeat (first | apply Kd.S_alloc | apply Kd.S_drewN | apply Kd.S_drew)); exact Kd.S_mono HO219.out (fun _ hk => ⟨hk.1.2, hk.2⟩)⟩, ⟨by repeat (first | (with_reducible first | exact HB.out | apply below_alloc | apply pw_below_drewN | apply below_drew1) | exact HB.out)⟩⟩
          · replace c22 := Bool.eq_false_iff.mpr c22
            subst c22
            have H1 : (laws_FnWatched.j0 k t206 (wrap64 (1 + (wrap64 (5 * t210)))) t212 t216 t220 t221 true) = some r := by rw [if_neg (show ¬ (false = true) by decide)] at H; exact H
            clear H
            have H := H1
            clear H1
            have H' := Aside0.mk H
            clear H
            go_wp2
            repeat (go_quiet (fail); try go_wp2)
            go_meet
            case rel => exact ⟨_, (true), (by first | rfl | (simp; done) | (simp [*]; done) | (simp [Int.tdiv_eq_ediv_of_nonneg, *]; done)), H', ⟨by first | omega | exact Nat.le_refl _⟩, ⟨by (with_reducible repeat (first | apply Kd.R_alloc | apply Kd.R_drewN | apply Kd.R_drew)); exact Kd.R_mono HO209.out (fun _ hk => hk.2)⟩, ⟨by (with_reducible repeat (first | apply Kd.R_alloc | apply Kd.R_drewN | apply Kd.R_drew)); exact Kd.R_mono HO215.out (fun _ hk => hk.2)⟩, ⟨by (with_reducible repeat (first | apply Kd.S_alloc | apply Kd.S_drewN | apply Kd.S_drew)); exact Kd.S_mono HO219.out (fun _ hk => ⟨hk.1.2, hk.2⟩)⟩, ⟨by repeat (first | (with_reducible first | exact HB.out | apply below_alloc | apply pw_below_drewN | apply below_drew1) | exact HB.out)⟩⟩
        · replace c21 := Bool.eq_false_iff.mpr c21
          subst c21
          have H1 : (laws_FnWatched.j0 k t206 (wrap64 (1 + (wrap64 (5 * t210)))) t212 t216 t220 t221 true) = some r := by rw [if_neg (show ¬ (false = true) by decide)] at H; exact H
          clear H
          have H := H1
          clear H1
          have H' := Aside0.mk H
          clear H
          go_wp2
          repeat (go_quiet (fail); try go_wp2)
          go_meet
          case rel => exact ⟨_, (true), (by first | rfl | (simp; done) | (simp [*]; done) | (simp [Int.tdiv_eq_ediv_of_nonneg, *]; done)), H', ⟨by first | omega | exact Nat.le_refl _⟩, ⟨by (with_reducible repeat (first | apply Kd.R_alloc | apply Kd.R_drewN | apply Kd.R_drew)); exact Kd.R_mono HO209.out (fun _ hk => hk.2)⟩, ⟨by (with_reducible repeat (first | apply Kd.R_alloc | apply Kd.R_drewN | apply Kd.R_drew)); exact Kd.R_mono HO215.out (fun _ hk => hk.2)⟩, ⟨by (with_reducible repeat (first | apply Kd.S_alloc | apply Kd.S_drewN | apply Kd.S_drew)); exact Kd.S_mono HO219.out (fun _ hk => ⟨hk.1.2, hk.2⟩)⟩, ⟨by repeat (first | (with_reducible first | exact HB.out | apply below_alloc | apply pw_below_drewN | apply below_drew1) | exact HB.out)⟩⟩
      · replace c20 := Bool.eq_false_iff.mpr c20
        subst c20
        have H1 : (laws_FnWatched.j0 k t206 (wrap64 (1 + (wrap64 (5 * t210)))) t212 t216 t220 t221 true) = some r := by rw [if_neg (show ¬ (false = true) by decide)] at H; exact H
        clear H
        have H := H1
        clear H1
        have H' := Aside0.mk H
        clear H
        go_wp2
        repeat (go_quiet (fail); try go_wp2)
        go_meet
        case rel => exact ⟨_, (true), (by first | rfl | (simp; done) | (simp [*]; done) | (simp [Int.tdiv_eq_ediv_of_nonneg, *]; done)), H', ⟨by first | omega | exact Nat.le_refl _⟩, ⟨by (with_reducible repeat (first | apply Kd.R_alloc | apply Kd.R_drewN | apply Kd.R_drew)); exact Kd.R_mono HO209.out (fun _ hk => hk.2)⟩, ⟨by (with_reducible repeat (first | apply Kd.R_alloc | apply Kd.R_drewN | apply Kd.R_drew)); exact Kd.R_mono HO215.out (fun _ hk => hk.2)⟩, ⟨by (with_reducible repeat (first | apply Kd.S_alloc | apply Kd.S_drewN | apply Kd.S_drew)); exact Kd.S_mono HO219.out (fun _ hk => ⟨hk.1.2, hk.2⟩)⟩, ⟨by repeat (first | (with_reducible first | exact HB.out | apply below_alloc | apply pw_below_drewN | apply below_drew1) | exact HB.out)⟩⟩
    case rest =>
      clear HC12
      try clear c1
      try clear c2
      try clear p2
      try clear c3
      try clear c4
      try clear p6
      try clear c20
      try clear c21
      try clear c22
      try clear c23
      try clear c24
      try clear c24b0
      try clear c24b1
      try clear c25
      try clear c25b0
      try clear c25b1
      try clear c26
      try clear c26b0
      obtain ⟨kq, x85_11, rfl, HA, HJ11, HO_5, HO_8, HO_10, HB⟩ := hcut
      cases kq with
      | zero => exact absurd HA.out (by simp [laws_FnWatched.j0])
      | succ kj11 =>
        have H := HA.out
        clear HA
        simp only [laws_FnWatched.j0] at H
        by_cases c30 : x85_11 = true
        · subst c30
          have H1 : (some false) = some r := by rw [if_pos rfl] at H; exact H
          clear H
          have H := H1
          clear H1
          obtain rfl := Option.some.inj H
          go_wp2
          repeat (go_quiet (fail); try go_wp2)
          go_ret
          exact ⟨by first | rfl | (simp [errW_none, errW_some] <;> rfl) | (simp [*, errW_none, errW_some] <;> rfl) | (simp [Int.tdiv_eq_ediv_of_nonneg, *]; done), by repeat (first | (with_reducible first | exact HB.out | apply below_alloc | apply pw_below_drewN | apply below_drew1) | exact HB.out)⟩
        · replace c30 := Bool.eq_false_iff.mpr c30
          subst c30
          have H1 : (laws_FnWatched.l0 kj11 t206 (wrap64 (1 + (wrap64 (5 * t210)))) t212 t216 t220 t221 0) = some r := by rw [if_neg (show ¬ (false = true) by decide)] at H; exact H
          clear H
          have H := H1
          clear H1
          have H' := Aside0.mk H
          clear H
          go_wp2
          repeat (go_quiet (fail); try go_wp2)
          go_loopg [15] kj11 (fun kq v15 w' => ∃ (x15_2 : Int), v15 = .int .i64 x15_2 ∧ Aside0 (laws_FnWatched.l0 kq t206 (wrap64 (1 + (wrap64 (5 * t210)))) t212 t216 t220 t221 x15_2 = some r) ∧ Aside0 (kq ≤ kj11) ∧ Aside0 (Kd.R (Kd.int .i64) 2 w' w.heap.size (fun k_ => some k_ ≠ (v214 : Value).ownBlock) (.slice Ao16 t206.length co16) t206) ∧ Aside0 (Kd.R (Kd.int .i64) 2 w' w.heap.size (fun k_ => some k_ ≠ ((.slice Ao16 t206.length co16) : Value).ownBlock) v214 t212) ∧ Aside0 (Kd.S (Kd.slice 2 (Kd.int .i64)) 24 w' w.heap.size (fun k_ => some k_ ≠ ((.slice Ao16 t206.length co16) : Value).ownBlock ∧ some k_ ≠ (v214 : Value).ownBlock) v218 t216) ∧ Aside0 (Below w.heap.size w w'))
          case atStart => exact ⟨(0), (by first | rfl | (simp; done) | (simp [*]; done) | (simp [Int.tdiv_eq_ediv_of_nonneg, *]; done)), H', ⟨Nat.le_refl _⟩, ⟨by (with_reducible repeat (first | apply Kd.R_alloc | apply Kd.R_drewN | apply Kd.R_drew)); exact HO_5.out⟩, ⟨by (with_reducible repeat (first | apply Kd.R_alloc | apply Kd.R_drewN | apply Kd.R_drew)); exact HO_8.out⟩, ⟨by (with_reducible repeat (first | apply Kd.S_alloc | apply Kd.S_drewN | apply Kd.S_drew)); exact HO_10.out⟩, ⟨by repeat (first | (with_reducible first | exact HB.out | apply below_alloc | apply pw_below_drewN | apply below_drew1) | exact HB.out)⟩⟩
          case round =>
            clear H'
            try clear c1
            try clear c2
            try clear p2
            try clear c3
            try clear c4
            try clear p6
            try clear c20
            try clear c21
            try clear c22
            try clear c23
            try clear c24
            try clear c24b0
            try clear c24b1
            try clear c25
            try clear c25b0
            try clear c25b1
            try clear c26
            try clear c26b0
            try clear c30
            try clear p2
            try clear p6
            obtain ⟨x15_2, rfl, HA, HK2, HO_5, HO_8, HO_10, HB⟩ := hrel
            cases gk with
            | zero => exact absurd HA.out (by simp [laws_FnWatched.l0])
            | succ k2 =>
              have H := HA.out
              clear HA
              simp only [laws_FnWatched.l0] at H
              by_cases c31 : x15_2 < 24
              · rw [if_pos c31] at H
                have c31b0 : decide (x15_2 < 24) = true := decide_eq_true c31
                clear c31
                have H' := Aside0.mk H
                clear H
                go_wp2
                repeat (go_quiet (fail); try go_wp2)
                go_loopg [16, 17] k2 (fun kq v16 v17 w' => ∃ (x16_3 : Bool) (x17_3 : Int), v16 = .bool x16_3 ∧ v17 = .int .i64 x17_3 ∧ Aside0 (laws_FnWatched.l1 kq t206 (wrap64 (1 + (wrap64 (5 * t210)))) t212 t216 t220 t221 x15_2 x16_3 x17_3 = some r) ∧ Aside0 (kq ≤ k2) ∧ Aside0 (Kd.R (Kd.int .i64) 2 w' w.heap.size (fun k_ => some k_ ≠ (v214 : Value).ownBlock) (.slice Ao16 t206.length co16) t206) ∧ Aside0 (Kd.R (Kd.int .i64) 2 w' w.heap.size (fun k_ => some k_ ≠ ((.slice Ao16 t206.length co16) : Value).ownBlock) v214 t212) ∧ Aside0 (Kd.S (Kd.slice 2 (Kd.int .i64)) 24 w' w.heap.size (fun k_ => some k_ ≠ ((.slice Ao16 t206.length co16) : Value).ownBlock ∧ some k_ ≠ (v214 : Value).ownBlock) v218 t216) ∧ Aside0 (Below w.heap.size w w'))
                case atStart => exact ⟨(false), (0), (by first | rfl | (simp; done) | (simp [*]; done) | (simp [Int.tdiv_eq_ediv_of_nonneg, *]; done)), (by first | rfl | (simp; done) | (simp [*]; done) | (simp [Int.tdiv_eq_ediv_of_nonneg, *]; done)), H', ⟨Nat.le_refl _⟩, ⟨by (with_reducible repeat (first | apply Kd.R_alloc | apply Kd.R_drewN | apply Kd.R_drew)); exact HO_5.out⟩, ⟨by (with_reducible repeat (first | apply Kd.R_alloc | apply Kd.R_drewN | apply Kd.R_drew)); exact HO_8.out⟩, ⟨by (with_reducible repeat (first | apply Kd.S_alloc | apply Kd.S_drewN | apply Kd.S_drew)); exact HO_10.out⟩, ⟨by repeat (first | (with_reducible first | exact HB.out | apply below_alloc | apply pw_below_drewN | apply below_drew1) | exact HB.out)⟩⟩
                case round =>
                  clear H'
                  try clear c1
                  try clear c2
                  try clear p2
                  try clear c3
                  try clear c4
                  try clear p6
                  try clear c20
                  try clear c21
                  try clear c22
                  try clear c23
                  try clear c24
                  try clear c24b0
                  try clear c24b1
                  try clear c25
                  try clear c25b0
                  try clear c25b1
                  try clear c26
                  try clear c26b0
                  try clear c30
                  try clear c31
                  try clear c31b0
                  try clear p2
                  try clear p6
                  obtain ⟨x16_3, x17_3, rfl, rfl, HA, HK3, HO_5, HO_8, HO_10, HB⟩ := hrel
                  cases gk with
                  | zero => exact absurd HA.out (by simp [laws_FnWatched.l1])
                  | succ k3 =>
                    have H := HA.out
                    clear HA
                    simp only [laws_FnWatched.l1] at H
                    by_cases c32 : x17_3 < (t216.length : Int)
                    · rw [if_pos c32] at H
                      have c32b0 : decide (x17_3 < (t216.length : Int)) = true := decide_eq_true c32
                      clear c32
                      by_cases c33 : 0 ≤ x17_3
                      · rw [if_pos c33] at H
                        have c33b0 : decide (0 ≤ x17_3) = true := decide_eq_true c33
                        clear c33
                        by_cases c34 : ((rd_L3 t216 x17_3).length : Int) = 2
                        · rw [if_pos c34] at H
                          have c34b0 : (((rd_L3 t216 x17_3).length : Int) == 2) = true := beq_iff_eq.mpr c34
                          have c34b1 : (((rd_L3 t216 x17_3).length : Int) != 2) = false := bne_eq_false_iff_eq.mpr c34
                          clear c34
                          by_cases c35 : x16_3 = true
                          · subst c35
                            have H1 : (laws_FnWatched.l1 k3 t206 (wrap64 (1 + (wrap64 (5 * t210)))) t212 t216 t220 t221 x15_2 true (wrap64 (x17_3 + 1))) = some r := by rw [if_pos rfl] at H; exact H
                            clear H
                            have H := H1
                            clear H1
                            have H' := Aside0.mk H
                            clear H
                            obtain ⟨Ao36, co36, eo36⟩ := Kd.S_slice HO_10.out
                            subst eo36
                            have p226 : 0 ≤ (x17_3 : Int) := of_decide_eq_true (by first | (with_reducible assumption) | assumption)
                            have q226 : x17_3 < (t216.length : Int) := of_decide_eq_true (by first | (with_reducible assumption) | assumption)
                            obtain ⟨ad226, A226_0, c226_0, e226, hx226_0, hl226_0, hi226_0⟩ := at_L3 (Kd.S_reads' HO_10.out).2.2 x17_3 p226 q226
                            cases e226
                            obtain ⟨ce226, hce226, hMe226, hcc226⟩ := Kd.S_get HO_10.out [] x17_3 p226 (by first | exact q226 | exact of_decide_eq_true (by first | (with_reducible assumption) | assumption) | (have e_ := (Kd.S_reads' HO_10.out).1; omega))
                            obtain ⟨ve226_0, rfl, ge226_0⟩ := hMe226
                            have hv226_0 := hcc226 0 _ rfl
                            rw [Nat.add_zero, show ((Kd.slice 2 (Kd.int .i64))).sz = 1 from rfl, Nat.mul_one] at hv226_0
                            replace hv226_0 := Option.some.inj (hv226_0.symm.trans hx226_0)
                            rw [hv226_0] at ge226_0
                            have HL226_0 := Aside0.mk (show Kd.R (Kd.int .i64) 2 _ _ _ _ (rd_L3 t216 x17_3) from ge226_0)
                            clear hv226_0 ge226_0
                            clear hcc226 hce226
                            have HR226_0 := Aside0.mk hi226_0
                            have HC226_0 := Aside0.mk hl226_0
                            clear hi226_0 hl226_0
                            replace p226 := eq_true p226
                            replace q226 := eq_true q226
                            go_wp2
                            repeat (go_quiet (fail); try go_wp2)
                            go_roundg k3
                            case measure => have := HJ11.out; have := HK2.out; have := HK3.out; omega
                            case rel => exact ⟨(true), (wrap64 (x17_3 + 1)), (by first | rfl | (simp; done) | (simp [*]; done) | (simp [Int.tdiv_eq_ediv_of_nonneg, *]; done)), (by first | rfl | (simp; done) | (simp [*]; done) | (simp [Int.tdiv_eq_ediv_of_nonneg, *]; done)), H', ⟨by have := HJ11.out; have := HK2.out; have := HK3.out; omega⟩, ⟨by (with_reducible repeat (first | apply Kd.R_alloc | apply Kd.R_drewN | apply Kd.R_drew)); exact HO_5.out⟩, ⟨by (with_reducible repeat (first | apply Kd.R_alloc | apply Kd.R_drewN | apply Kd.R_drew)); exact HO_8.out⟩, ⟨by (with_reducible repeat (first | apply Kd.S_alloc | apply Kd.S_drewN | apply Kd.S_drew)); exact HO_10.out⟩, ⟨by repeat (first | (with_reducible first | exact HB.out | apply below_alloc | apply pw_below_drewN | apply below_drew1) | exact HB.out)⟩⟩
                          · replace c35 := Bool.eq_false_iff.mpr c35
                            subst c35
                            have H1 : (if 0 < ((rd_L3 t216 x17_3).length : Int) then (if (rd (rd_L3 t216 x17_3) 0) ≤ x15_2 then (if 1 < ((rd_L3 t216 x17_3).length : Int) then (laws_FnWatched.l1 k3 t206 (wrap64 (1 + (wrap64 (5 * t210)))) t212 t216 t220 t221 x15_2 (decide (x15_2 ≤ (rd (rd_L3 t216 x17_3) 1))) (wrap64 (x17_3 + 1))) else (none)) else (laws_FnWatched.l1 k3 t206 (wrap64 (1 + (wrap64 (5 * t210)))) t212 t216 t220 t221 x15_2 false (wrap64 (x17_3 + 1)))) else (none)) = some r := by rw [if_neg (show ¬ (false = true) by decide)] at H; exact H
                            clear H
                            have H := H1
                            clear H1
                            by_cases c37 : 0 < ((rd_L3 t216 x17_3).length : Int)
                            · rw [if_pos c37] at H
                              have c37b0 : decide (0 < ((rd_L3 t216 x17_3).length : Int)) = true := decide_eq_true c37
                              have c37b1 : decide (0 < (rd_L3 t216 x17_3).length) = true := decide_eq_true (by omega)
                              clear c37
                              by_cases c38 : (rd (rd_L3 t216 x17_3) 0) ≤ x15_2
                              · rw [if_pos c38] at H
                                have c38b0 : decide ((rd (rd_L3 t216 x17_3) 0) ≤ x15_2) = true := decide_eq_true c38
                                clear c38
                                by_cases c39 : 1 < ((rd_L3 t216 x17_3).length : Int)
                                · rw [if_pos c39] at H
                                  have c39b0 : decide (1 < ((rd_L3 t216 x17_3).length : Int)) = true := decide_eq_true c39
                                  have c39b1 : decide (1 < (rd_L3 t216 x17_3).length) = true := decide_eq_true (by omega)
                                  clear c39
                                  have H' := Aside0.mk H
                                  clear H
                                  obtain ⟨Ao40, co40, eo40⟩ := Kd.S_slice HO_10.out
                                  subst eo40
                                  have p226 : 0 ≤ (x17_3 : Int) := of_decide_eq_true (by first | (with_reducible assumption) | assumption)
                                  have q226 : x17_3 < (t216.length : Int) := of_decide_eq_true (by first | (with_reducible assumption) | assumption)
                                  obtain ⟨ad226, A226_0, c226_0, e226, hx226_0, hl226_0, hi226_0⟩ := at_L3 (Kd.S_reads' HO_10.out).2.2 x17_3 p226 q226
                                  cases e226
                                  obtain ⟨ce226, hce226, hMe226, hcc226⟩ := Kd.S_get HO_10.out [] x17_3 p226 (by first | exact q226 | exact of_decide_eq_true (by first | (with_reducible assumption) | assumption) | (have e_ := (Kd.S_reads' HO_10.out).1; omega))
                                  obtain ⟨ve226_0, rfl, ge226_0⟩ := hMe226
                                  have hv226_0 := hcc226 0 _ rfl
                                  rw [Nat.add_zero, show ((Kd.slice 2 (Kd.int .i64))).sz = 1 from rfl, Nat.mul_one] at hv226_0
                                  replace hv226_0 := Option.some.inj (hv226_0.symm.trans hx226_0)
                                  rw [hv226_0] at ge226_0
                                  have HL226_0 := Aside0.mk (show Kd.R (Kd.int .i64) 2 _ _ _ _ (rd_L3 t216 x17_3) from ge226_0)
                                  clear hv226_0 ge226_0
                                  clear hcc226 hce226
                                  have HR226_0 := Aside0.mk hi226_0
                                  have HC226_0 := Aside0.mk hl226_0
                                  clear hi226_0 hl226_0
                                  replace p226 := eq_true p226
                                  replace q226 := eq_true q226
                                  have p227 : 0 ≤ (x17_3 : Int) := of_decide_eq_true (by first | (with_reducible assumption) | assumption)
                                  have q227 : x17_3 < (t216.length : Int) := of_decide_eq_true (by first | (with_reducible assumption) | assumption)
                                  obtain ⟨ad227, A227_0, c227_0, e227, hx227_0, hl227_0, hi227_0⟩ := at_L3 (Kd.S_reads' HO_10.out).2.2 x17_3 p227 q227
                                  obtain rfl : ad226 = ad227 := (by injection e227)
                                  obtain ⟨ce227, hce227, hMe227, hcc227⟩ := Kd.S_get HO_10.out [] x17_3 p227 (by first | exact q227 | exact of_decide_eq_true (by first | (with_reducible assumption) | assumption) | (have e_ := (Kd.S_reads' HO_10.out).1; omega))
                                  obtain ⟨ve227_0, rfl, ge227_0⟩ := hMe227
                                  have hv227_0 := hcc227 0 _ rfl
                                  rw [Nat.add_zero, show ((Kd.slice 2 (Kd.int .i64))).sz = 1 from rfl, Nat.mul_one] at hv227_0
                                  replace hv227_0 := Option.some.inj (hv227_0.symm.trans hx227_0)
                                  rw [hv227_0] at ge227_0
                                  have HL227_0 := Aside0.mk (show Kd.R (Kd.int .i64) 2 _ _ _ _ (rd_L3 t216 x17_3) from ge227_0)
                                  clear hv227_0 ge227_0
                                  clear hcc227 hce227
                                  have HR227_0 := Aside0.mk hi227_0
                                  have HC227_0 := Aside0.mk hl227_0
                                  clear hi227_0 hl227_0
                                  replace p227 := eq_true p227
                                  replace q227 := eq_true q227
                                  have ea_ := Option.some.inj (hx226_0.symm.trans hx227_0)
                                  injection ea_ with ea_ en_ ec_
                                  subst ea_
                                  subst ec_
                                  clear en_
                                  have p228 : 0 ≤ (0 : Int) := (by omega)
                                  have q228 : 0 < ((rd_L3 t216 x17_3).length : Int) := of_decide_eq_true (by first | (with_reducible assumption) | assumption)
                                  obtain ⟨ad228, e228, hx228_0⟩ := Kd.at_int (by repeat (first | (with_reducible exact HR227_0.out) | (with_reducible refine Kd.C_alloc ?_ _) | (with_reducible refine Kd.C_drewN ?_ _) | (with_reducible refine Kd.C_drew ?_) | exact HR227_0.out)) 0 p228 q228
                                  cases e228
                                  have qi228 : (0 < (rd_L3 t216 x17_3).length) = True := eq_true (by omega)
                                  (try rw [show ((0 : Int)).toNat = 0 from rfl] at hx228_0)
                                  (try rw [Addr.add_zero'] at hx228_0)
                                  replace p228 := eq_true p228
                                  replace q228 := eq_true q228
                                  have p229 : 0 ≤ (x17_3 : Int) := of_decide_eq_true (by first | (with_reducible assumption) | assumption)
                                  have q229 : x17_3 < (t216.length : Int) := of_decide_eq_true (by first | (with_reducible assumption) | assumption)
                                  obtain ⟨ad229, A229_0, c229_0, e229, hx229_0, hl229_0, hi229_0⟩ := at_L3 (Kd.S_reads' HO_10.out).2.2 x17_3 p229 q229
                                  obtain rfl : ad226 = ad229 := (by injection e229)
                                  obtain ⟨ce229, hce229, hMe229, hcc229⟩ := Kd.S_get HO_10.out [] x17_3 p229 (by first | exact q229 | exact of_decide_eq_true (by first | (with_reducible assumption) | assumption) | (have e_ := (Kd.S_reads' HO_10.out).1; omega))
                                  obtain ⟨ve229_0, rfl, ge229_0⟩ := hMe229
                                  have hv229_0 := hcc229 0 _ rfl
                                  rw [Nat.add_zero, show ((Kd.slice 2 (Kd.int .i64))).sz = 1 from rfl, Nat.mul_one] at hv229_0
                                  replace hv229_0 := Option.some.inj (hv229_0.symm.trans hx229_0)
                                  rw [hv229_0] at ge229_0
                                  have HL229_0 := Aside0.mk (show Kd.R (Kd.int .i64) 2 _ _ _ _ (rd_L3 t216 x17_3) from ge229_0)
                                  clear hv229_0 ge229_0
                                  clear hcc229 hce229
                                  have HR229_0 := Aside0.mk hi229_0
                                  have HC229_0 := Aside0.mk hl229_0
                                  clear hi229_0 hl229_0
                                  replace p229 := eq_true p229
                                  replace q229 := eq_true q229
                                  have ea_ := Option.some.inj (hx226_0.symm.trans hx229_0)
                                  injection ea_ with ea_ en_ ec_
                                  subst ea_
                                  subst ec_
                                  clear en_
                                  have p230 : 0 ≤ (1 : Int) := (by omega)
                                  have q230 : 1 < ((rd_L3 t216 x17_3).length : Int) := of_decide_eq_true (by first | (with_reducible assumption) | assumption)
                                  obtain ⟨ad230, e230, hx230_0⟩ := Kd.at_int (by repeat (first | (with_reducible exact HR229_0.out) | (with_reducible refine Kd.C_alloc ?_ _) | (with_reducible refine Kd.C_drewN ?_ _) | (with_reducible refine Kd.C_drew ?_) | exact HR229_0.out)) 1 p230 q230
                                  cases e230
                                  (try simp only [show (1 : Int).toNat = 1 from rfl, Nat.reduceMul, Nat.reduceEqDiff, Go.Addr.add, ↓reduceIte] at hx230_0)
                                  have qi230 : (1 < (rd_L3 t216 x17_3).length) = True := eq_true (by omega)
                                  (try rw [show ((1 : Int)).toNat = 1 from rfl] at hx230_0)
                                  replace p230 := eq_true p230
                                  replace q230 := eq_true q230
                                  go_wp2
                                  repeat (go_quiet (fail); try go_wp2)
                                  go_roundg k3
                                  case measure => have := HJ11.out; have := HK2.out; have := HK3.out; omega
                                  case rel => exact ⟨(decide (x15_2 ≤ (rd (rd_L3 t216 x17_3) 1))), (wrap64 (x17_3 + 1)), (by first | rfl | (simp; done) | (simp [*]; done) | (simp [Int.tdiv_eq_ediv_of_nonneg, *]; done)), (by first | rfl | (simp; done) | (simp [*]; done) | (simp [Int.tdiv_eq_ediv_of_nonneg, *]; done)), H', ⟨by have := HJ11.out; have := HK2.out; have := HK3.out; omega⟩, ⟨by (with_reducible repeat (first | apply Kd.R_alloc | apply Kd.R_drewN | apply Kd.R_drew)); exact HO_5.out⟩, ⟨by (with_reducible repeat (first | apply Kd.R_alloc | apply Kd.R_drewN | apply Kd.R_drew)); exact HO_8.out⟩, ⟨by (with_reducible repeat (first | apply Kd.S_alloc | apply Kd.S_drewN | apply Kd.S_drew)); exact HO_10.out⟩, ⟨by repeat (first | (with_reducible first | exact HB.out | apply below_alloc | apply pw_below_drewN | apply below_drew1) | exact HB.out)⟩⟩
                                · rw [if_neg c39] at H
                                  exact absurd H (by simp)
                              · rw [if_neg c38] at H
                                have c38b0 : decide ((rd (rd_L3 t216 x17_3) 0) ≤ x15_2) = false := decide_eq_false c38
                                clear c38
                                have H' := Aside0.mk H
                                clear H
                                obtain ⟨Ao41, co41, eo41⟩ := Kd.S_slice HO_10.out
                                subst eo41
                                have p226 : 0 ≤ (x17_3 : Int) := of_decide_eq_true (by first | (with_reducible assumption) | assumption)
                                have q226 : x17_3 < (t216.length : Int) := of_decide_eq_true (by first | (with_reducible assumption) | assumption)
                                obtain ⟨ad226, A226_0, c226_0, e226, hx226_0, hl226_0, hi226_0⟩ := at_L3 (Kd.S_reads' HO_10.out).2.2 x17_3 p226 q226
                                cases e226
                                obtain ⟨ce226, hce226, hMe226, hcc226⟩ := Kd.S_get HO_10.out [] x17_3 p226 (by first | exact q226 | exact of_decide_eq_true (by first | (with_reducible assumption) | assumption) | (have e_ := (Kd.S_reads' HO_10.out).1; omega))
                                obtain ⟨ve226_0, rfl, ge226_0⟩ := hMe226
                                have hv226_0 := hcc226 0 _ rfl
                                rw [Nat.add_zero, show ((Kd.slice 2 (Kd.int .i64))).sz = 1 from rfl, Nat.mul_one] at hv226_0
                                replace hv226_0 := Option.some.inj (hv226_0.symm.trans hx226_0)
                                rw [hv226_0] at ge226_0
                                have HL226_0 := Aside0.mk (show Kd.R (Kd.int .i64) 2 _ _ _ _ (rd_L3 t216 x17_3) from ge226_0)
                                clear hv226_0 ge226_0
                                clear hcc226 hce226
                                have HR226_0 := Aside0.mk hi226_0
                                have HC226_0 := Aside0.mk hl226_0
                                clear hi226_0 hl226_0
                                replace p226 := eq_true p226
                                replace q226 := eq_true q226
                                have p227 : 0 ≤ (x17_3 : Int) := of_decide_eq_true (by first | (with_reducible assumption) | assumption)
                                have q227 : x17_3 < (t216.length : Int) := of_decide_eq_true (by first | (with_reducible assumption) | assumption)
                                obtain ⟨ad227, A227_0, c227_0, e227, hx227_0, hl227_0, hi227_0⟩ := at_L3 (Kd.S_reads' HO_10.out).2.2 x17_3 p227 q227
                                obtain rfl : ad226 = ad227 := (by injection e227)
                                obtain ⟨ce227, hce227, hMe227, hcc227⟩ := Kd.S_get HO_10.out [] x17_3 p227 (by first | exact q227 | exact of_decide_eq_true (by first | (with_reducible assumption) | assumption) | (have e_ := (Kd.S_reads' HO_10.out).1; omega))
                                obtain ⟨ve227_0, rfl, ge227_0⟩ := hMe227
                                have hv227_0 := hcc227 0 _ rfl
                                rw [Nat.add_zero, show ((Kd.slice 2 (Kd.int .i64))).sz = 1 from rfl, Nat.mul_one] at hv227_0
                                replace hv227_0 := Option.some.inj (hv227_0.symm.trans hx227_0)
                                rw [hv227_0] at ge227_0
                                have HL227_0 := Aside0.mk (show Kd.R (Kd.int .i64) 2 _ _ _ _ (rd_L3 t216 x17_3) from ge227_0)
                                clear hv227_0 ge227_0
                                clear hcc227 hce227
                                have HR227_0 := Aside0.mk hi227_0
                                have HC227_0 := Aside0.mk hl227_0
                                clear hi227_0 hl227_0
                                replace p227 := eq_true p227
                                replace q227 := eq_true q227
                                have ea_ := Option.some.inj (hx226_0.symm.trans hx227_0)
                                injection ea_ with ea_ en_ ec_
                                subst ea_
                                subst ec_
                                clear en_
                                have p228 : 0 ≤ (0 : Int) := (by omega)
                                have q228 : 0 < ((rd_L3 t216 x17_3).length : Int) := of_decide_eq_true (by first | (with_reducible assumption) | assumption)
                                obtain ⟨ad228, e228, hx228_0⟩ := Kd.at_int (by repeat (first | (with_reducible exact HR227_0.out) | (with_reducible refine Kd.C_alloc ?_ _) | (with_reducible refine Kd.C_drewN ?_ _) | (with_reducible refine Kd.C_drew ?_) | exact HR227_0.out)) 0 p228 q228
                                cases e228
                                have qi228 : (0 < (rd_L3 t216 x17_3).length) = True := eq_true (by omega)
                                (try rw [show ((0 : Int)).toNat = 0 from rfl] at hx228_0)
                                (try rw [Addr.add_zero'] at hx228_0)
                                replace p228 := eq_true p228
                                replace q228 := eq_true q228
                                go_wp2
                                repeat (go_quiet (fail); try go_wp2)
                                go_roundg k3
                                case measure => have := HJ11.out; have := HK2.out; have := HK3.out; omega
                                case rel => exact ⟨(false), (wrap64 (x17_3 + 1)), (by first | rfl | (simp; done) | (simp [*]; done) | (simp [Int.tdiv_eq_ediv_of_nonneg, *]; done)), (by first | rfl | (simp; done) | (simp [*]; done) | (simp [Int.tdiv_eq_ediv_of_nonneg, *]; done)), H', ⟨by have := HJ11.out; have := HK2.out; have := HK3.out; omega⟩, ⟨by (with_reducible repeat (first | apply Kd.R_alloc | apply Kd.R_drewN | apply Kd.R_drew)); exact HO_5.out⟩, ⟨by (with_reducible repeat (first | apply Kd.R_alloc | apply Kd.R_drewN | apply Kd.R_drew)); exact HO_8.out⟩, ⟨by (with_reducible repeat (first | apply Kd.S_alloc | apply Kd.S_drewN | apply Kd.S_drew)); exact HO_10.out⟩, ⟨by repeat (first | (with_reducible first | exact HB.out | apply below_alloc | apply pw_below_drewN | apply below_drew1) | exact HB.out)⟩⟩
                            · rw [if_neg c37] at H
                              exact absurd H (by simp)
                        · rw [if_neg c34] at H
                          have c34b0 : (((rd_L3 t216 x17_3).length : Int) == 2) = false := beq_eq_false_iff_ne.mpr c34
                          have c34b1 : (((rd_L3 t216 x17_3).length : Int) != 2) = true := bne_iff_ne.mpr c34
                          obtain rfl := Option.some.inj H
                          obtain ⟨Ao42, co42, eo42⟩ := Kd.S_slice HO_10.out
                          subst eo42
                          have p226 : 0 ≤ (x17_3 : Int) := of_decide_eq_true (by first | (with_reducible assumption) | assumption)
                          have q226 : x17_3 < (t216.length : Int) := of_decide_eq_true (by first | (with_reducible assumption) | assumption)
                          obtain ⟨ad226, A226_0, c226_0, e226, hx226_0, hl226_0, hi226_0⟩ := at_L3 (Kd.S_reads' HO_10.out).2.2 x17_3 p226 q226
                          cases e226
                          obtain ⟨ce226, hce226, hMe226, hcc226⟩ := Kd.S_get HO_10.out [] x17_3 p226 (by first | exact q226 | exact of_decide_eq_true (by first | (with_reducible assumption) | assumption) | (have e_ := (Kd.S_reads' HO_10.out).1; omega))
                          obtain ⟨ve226_0, rfl, ge226_0⟩ := hMe226
                          have hv226_0 := hcc226 0 _ rfl
                          rw [Nat.add_zero, show ((Kd.slice 2 (Kd.int .i64))).sz = 1 from rfl, Nat.mul_one] at hv226_0
                          replace hv226_0 := Option.some.inj (hv226_0.symm.trans hx226_0)
                          rw [hv226_0] at ge226_0
                          have HL226_0 := Aside0.mk (show Kd.R (Kd.int .i64) 2 _ _ _ _ (rd_L3 t216 x17_3) from ge226_0)
                          clear hv226_0 ge226_0
                          clear hcc226 hce226
                          have HR226_0 := Aside0.mk hi226_0
                          have HC226_0 := Aside0.mk hl226_0
                          clear hi226_0 hl226_0
                          replace p226 := eq_true p226
                          replace q226 := eq_true q226
                          go_wp2
                          repeat (go_quiet (fail); try go_wp2)
                          go_ret
                          exact ⟨by first | rfl | (simp [errW_none, errW_some] <;> rfl) | (simp [*, errW_none, errW_some] <;> rfl) | (simp [Int.tdiv_eq_ediv_of_nonneg, *]; done), by repeat (first | (with_reducible first | exact HB.out | apply below_alloc | apply pw_below_drewN | apply below_drew1) | exact HB.out)⟩
                      · rw [if_neg c33] at H
                        exact absurd H (by simp)
                    · rw [if_neg c32] at H
                      have c32b0 : decide (x17_3 < (t216.length : Int)) = false := decide_eq_false c32
                      clear c32
                      have HC43 := Aside0.mk H
                      clear H
                      obtain ⟨Ao44, co44, eo44⟩ := Kd.S_slice HO_10.out
                      subst eo44
                      go_upto_region 20 with (fail)
                      repeat (go_quiet (fail); go_upto_region 20 with (fail))
                      go_cut [139] (fun v139 wc => ∃ (kq : Nat) (x139_42 : Bool), v139 = .bool x139_42 ∧ Aside0 (laws_FnWatched.j3 kq t206 (wrap64 (1 + (wrap64 (5 * t210)))) t212 t216 t220 t221 x15_2 x139_42 = some r) ∧ Aside0 (kq ≤ k3) ∧ Aside0 (Kd.R (Kd.int .i64) 2 wc w.heap.size (fun k_ => some k_ ≠ (v214 : Value).ownBlock) (.slice Ao16 t206.length co16) t206) ∧ Aside0 (Kd.R (Kd.int .i64) 2 wc w.heap.size (fun k_ => some k_ ≠ ((.slice Ao16 t206.length co16) : Value).ownBlock) v214 t212) ∧ Aside0 (Kd.S (Kd.slice 2 (Kd.int .i64)) 24 wc w.heap.size (fun k_ => some k_ ≠ ((.slice Ao16 t206.length co16) : Value).ownBlock ∧ some k_ ≠ (v214 : Value).ownBlock) (.slice Ao44 t216.length co44) t216) ∧ Aside0 (Below w.heap.size w wc))
                      case first =>
                        have H := HC43.out
                        clear HC43
                        by_cases c45 : 0 ≤ x15_2
                        · rw [if_pos c45] at H
                          have c45b0 : decide (0 ≤ x15_2) = true := decide_eq_true c45
                          clear c45
                          (first | rw [c45b0] | (simp only [i64_w, i32_w]; rw [c45b0]) | skip)
                          by_cases c46 : x15_2 < (t206.length : Int)
                          · rw [if_pos c46] at H
                            have c46b0 : decide (x15_2 < (t206.length : Int)) = true := decide_eq_true c46
                            clear c46
                            by_cases c47 : (x16_3 != (decide ((rd t206 x15_2) ≥ (wrap64 (1 + (wrap64 (5 * t210))))))) = true
                            · rw [if_pos c47] at H
                              have c47b0 : (x16_3 != (decide ((rd t206 x15_2) ≥ (wrap64 (1 + (wrap64 (5 * t210))))))) = true := c47
                              (try (have c47b1 : decide (x16_3 = (decide ((rd t206 x15_2) ≥ (wrap64 (1 + (wrap64 (5 * t210))))))) = false := by simpa using c47))
                              (try (have c47b2 : (x16_3 == (decide ((rd t206 x15_2) ≥ (wrap64 (1 + (wrap64 (5 * t210))))))) = false := by simpa using c47))
                              (try (have c47b3 : ¬ (x16_3 = (decide ((rd t206 x15_2) ≥ (wrap64 (1 + (wrap64 (5 * t210))))))) := by simpa using c47))
                              clear c47
                              have H' := Aside0.mk H
                              clear H
                              have p231 : 0 ≤ (x15_2 : Int) := of_decide_eq_true (by first | (with_reducible assumption) | assumption)
                              have q231 : x15_2 < (t206.length : Int) := of_decide_eq_true (by first | (with_reducible assumption) | assumption)
                              obtain ⟨ad231, e231, hx231_0⟩ := Kd.at_int (Kd.R_reads' HO_5.out).2.2 x15_2 p231 q231
                              cases e231
                              replace p231 := eq_true p231
                              replace q231 := eq_true q231
                              go_wp2
                              repeat (go_quiet (fail); try go_wp2)
                              go_meet
                              case rel => exact ⟨_, (true), (by first | rfl | (simp; done) | (simp [*]; done) | (simp [Int.tdiv_eq_ediv_of_nonneg, *]; done)), H', ⟨by have := HJ11.out; have := HK2.out; have := HK3.out; first | omega | exact Nat.le_refl _⟩, ⟨by (with_reducible repeat (first | apply Kd.R_alloc | apply Kd.R_drewN | apply Kd.R_drew)); exact HO_5.out⟩, ⟨by (with_reducible repeat (first | apply Kd.R_alloc | apply Kd.R_drewN | apply Kd.R_drew)); exact HO_8.out⟩, ⟨by (with_reducible repeat (first | apply Kd.S_alloc | apply Kd.S_drewN | apply Kd.S_drew)); exact HO_10.out⟩, ⟨by repeat (first | (with_reducible first | exact HB.out | apply below_alloc | apply pw_below_drewN | apply below_drew1) | exact HB.out)⟩⟩
                            · rw [if_neg c47] at H
                              have c47b0 : (x16_3 != (decide ((rd t206 x15_2) ≥ (wrap64 (1 + (wrap64 (5 * t210))))))) = false := by simpa using c47
                              (try (have c47b1 : decide (x16_3 = (decide ((rd t206 x15_2) ≥ (wrap64 (1 + (wrap64 (5 * t210))))))) = true := by simpa using c47))
                              (try (have c47b2 : (x16_3 == (decide ((rd t206 x15_2) ≥ (wrap64 (1 + (wrap64 (5 * t210))))))) = true := by simpa using c47))
                              clear c47
                              by_cases c48 : x15_2 < (t212.length : Int)
                              · rw [if_pos c48] at H
                                have c48b0 : decide (x15_2 < (t212.length : Int)) = true := decide_eq_true c48
                                clear c48
                                have H' := Aside0.mk H
                                clear H
                                have p231 : 0 ≤ (x15_2 : Int) := of_decide_eq_true (by first | (with_reducible assumption) | assumption)
                                have q231 : x15_2 < (t206.length : Int) := of_decide_eq_true (by first | (with_reducible assumption) | assumption)
                                obtain ⟨ad231, e231, hx231_0⟩ := Kd.at_int (Kd.R_reads' HO_5.out).2.2 x15_2 p231 q231
                                cases e231
                                replace p231 := eq_true p231
                                replace q231 := eq_true q231
                                obtain ⟨Ao49, co49, eo49⟩ := Kd.R_slice HO_8.out
                                subst eo49
                                have p232 : 0 ≤ (x15_2 : Int) := of_decide_eq_true (by first | (with_reducible assumption) | assumption)
                                have q232 : x15_2 < (t212.length : Int) := of_decide_eq_true (by first | (with_reducible assumption) | assumption)
                                obtain ⟨ad232, e232, hx232_0⟩ := Kd.at_int (Kd.R_reads' HO_8.out).2.2 x15_2 p232 q232
                                cases e232
                                replace p232 := eq_true p232
                                replace q232 := eq_true q232
                                go_wp2
                                repeat (go_quiet (fail); try go_wp2)
                                go_meet
                                case rel => exact ⟨_, ((x16_3 != ((rd t212 x15_2) != 0))), (by first | rfl | (simp; done) | (simp [*]; done) | (simp [Int.tdiv_eq_ediv_of_nonneg, *]; done)), H', ⟨by have := HJ11.out; have := HK2.out; have := HK3.out; first | omega | exact Nat.le_refl _⟩, ⟨by (with_reducible repeat (first | apply Kd.R_alloc | apply Kd.R_drewN | apply Kd.R_drew)); exact HO_5.out⟩, ⟨by (with_reducible repeat (first | apply Kd.R_alloc | apply Kd.R_drewN | apply Kd.R_drew)); exact HO_8.out⟩, ⟨by (with_reducible repeat (first | apply Kd.S_alloc | apply Kd.S_drewN | apply Kd.S_drew)); exact HO_10.out⟩, ⟨by repeat (first | (with_reducible first | exact HB.out | apply below_alloc | apply pw_below_drewN | apply below_drew1) | exact HB.out)⟩⟩
                              · rw [if_neg c48] at H
                                exact absurd H (by simp)
                          · rw [if_neg c46] at H
                            exact absurd H (by simp)
                        · rw [if_neg c45] at H
                          exact absurd H (by simp)
                      case rest =>
                        clear HC43
                        try clear c1
                        try clear c2
                        try clear p2
                        try clear q2
                        try clear hx2
                        try clear qi2
                        try clear c3
                        try clear c4
                        try clear p6
                        try clear c20
                        try clear c21
                        try clear c22
                        try clear p22
                        try clear q22
                        try clear hx22
                        try clear qi22
                        try clear c23
                        try clear p23
                        try clear q23
                        try clear hx23
                        try clear qi23
                        try clear c24
                        try clear c24b0
                        try clear c24b1
                        try clear c25
                        try clear c25b0
                        try clear c25b1
                        try clear c26
                        try clear c26b0
                        try clear c30
                        try clear c31
                        try clear c31b0
                        try clear c32
                        try clear c32b0
                        try clear c33
                        try clear c33b0
                        try clear c34
                        try clear c34b0
                        try clear c34b1
                        try clear c35
                        try clear c37
                        try clear c37b0
                        try clear c37b1
                        try clear c38
                        try clear c38b0
                        try clear c39
                        try clear c39b0
                        try clear c39b1
                        try clear c45
                        try clear c45b0
                        try clear c46
                        try clear c46b0
                        try clear c47
                        try clear c47b0
                        try clear c47b1
                        try clear c47b2
                        try clear c48
                        try clear c48b0
                        try clear hx226_0
                        try clear hx227_0
                        try clear hx228_0
                        try clear hx229_0
                        try clear hx230_0
                        try clear hx231_0
                        try clear hx232_0
                        try clear p2
                        try clear p226
                        try clear p227
                        try clear p228
                        try clear p229
                        try clear p230
                        try clear p231
                        try clear p232
                        try clear p6
                        try clear q226
                        try clear q227
                        try clear q228
                        try clear q229
                        try clear q230
                        try clear q231
                        try clear q232
                        obtain ⟨kq, x139_42, rfl, HA, HJ42, HO_5, HO_8, HO_10, HB⟩ := hcut
                        cases kq with
                        | zero => exact absurd HA.out (by simp [laws_FnWatched.j3])
                        | succ kj42 =>
                          have H := HA.out
                          clear HA
                          simp only [laws_FnWatched.j3] at H
                          by_cases c50 : x139_42 = true
                          · subst c50
                            have H1 : (some false) = some r := by rw [if_pos rfl] at H; exact H
                            clear H
                            have H := H1
                            clear H1
                            obtain rfl := Option.some.inj H
                            go_wp2
                            repeat (go_quiet (fail); try go_wp2)
                            go_ret
                            exact ⟨by first | rfl | (simp [errW_none, errW_some] <;> rfl) | (simp [*, errW_none, errW_some] <;> rfl) | (simp [Int.tdiv_eq_ediv_of_nonneg, *]; done), by repeat (first | (with_reducible first | exact HB.out | apply below_alloc | apply pw_below_drewN | apply below_drew1) | exact HB.out)⟩
                          · replace c50 := Bool.eq_false_iff.mpr c50
                            subst c50
                            have H1 : (if (wrap64 (x15_2 + 1)) < 24 then (if 0 ≤ x15_2 then (if x15_2 < (t206.length : Int) then (if 0 ≤ (wrap64 (x15_2 + 1)) then (if (wrap64 (x15_2 + 1)) < (t206.length : Int) then ((laws_b10Abs.f (wrap64 ((rd t206 x15_2) - (rd t206 (wrap64 (x15_2 + 1)))))).bind fun t235 => (if t235 > t221 then (some false) else (laws_FnWatched.l0 kj42 t206 (wrap64 (1 + (wrap64 (5 * t210)))) t212 t216 t220 t221 (wrap64 (x15_2 + 1))))) else (none)) else (none)) else (none)) else (none)) else (laws_FnWatched.l0 kj42 t206 (wrap64 (1 + (wrap64 (5 * t210)))) t212 t216 t220 t221 (wrap64 (x15_2 + 1)))) = some r := by rw [if_neg (show ¬ (false = true) by decide)] at H; exact H
                            clear H
                            have H := H1
                            clear H1
                            by_cases c51 : (wrap64 (x15_2 + 1)) < 24
                            · rw [if_pos c51] at H
                              have c51b0 : decide ((wrap64 (x15_2 + 1)) < 24) = true := decide_eq_true c51
                              clear c51
                              by_cases c52 : 0 ≤ x15_2
                              · rw [if_pos c52] at H
                                have c52b0 : decide (0 ≤ x15_2) = true := decide_eq_true c52
                                clear c52
                                by_cases c53 : x15_2 < (t206.length : Int)
                                · rw [if_pos c53] at H
                                  have c53b0 : decide (x15_2 < (t206.length : Int)) = true := decide_eq_true c53
                                  clear c53
                                  obtain ⟨ji54, hji54⟩ : ∃ j_ : Int, (wrap64 (x15_2 + 1)) = j_ := ⟨_, rfl⟩
                                  replace H : (if 0 ≤ (ji54) then (if (ji54) < (t206.length : Int) then ((laws_b10Abs.f (wrap64 ((rd t206 x15_2) - (rd t206 (ji54))))).bind fun t235 => (if t235 > t221 then (some false) else (laws_FnWatched.l0 kj42 t206 (wrap64 (1 + (wrap64 (5 * t210)))) t212 t216 t220 t221 ji54))) else (none)) else (none)) = some r := by first | (rw [hji54] at H; exact H) | (simp only [hji54] at H ⊢; exact H)
                                  (try rw [hji54] at c51b0)
                                  have hji54w : (IntKind.i64.wrap (x15_2 + 1)) = ji54 := (i64_w _).trans hji54
                                  by_cases c55 : 0 ≤ (ji54)
                                  · rw [if_pos c55] at H
                                    have c55b0 : decide (0 ≤ (ji54)) = true := decide_eq_true c55
                                    clear c55
                                    by_cases c56 : (ji54) < (t206.length : Int)
                                    · rw [if_pos c56] at H
                                      have c56b0 : decide ((ji54) < (t206.length : Int)) = true := decide_eq_true c56
                                      clear c56
                                      replace H := Option.bind_eq_some_iff.mp H
                                      obtain ⟨t235, A570, H⟩ := H
                                      replace H : (if t235 > t221 then (some false) else (laws_FnWatched.l0 kj42 t206 (wrap64 (1 + (wrap64 (5 * t210)))) t212 t216 t220 t221 ji54)) = some r := H
                                      have A57 := Aside0.mk A570
                                      clear A570
                                      by_cases c58 : t235 > t221
                                      · rw [if_pos c58] at H
                                        have c58b0 : decide (t221 < t235) = true := decide_eq_true c58
                                        clear c58
                                        obtain rfl := Option.some.inj H
                                        have p233 : 0 ≤ (x15_2 : Int) := of_decide_eq_true (by first | (with_reducible assumption) | assumption)
                                        have q233 : x15_2 < (t206.length : Int) := of_decide_eq_true (by first | (with_reducible assumption) | assumption)
                                        obtain ⟨ad233, e233, hx233_0⟩ := Kd.at_int (Kd.R_reads' HO_5.out).2.2 x15_2 p233 q233
                                        cases e233
                                        replace p233 := eq_true p233
                                        replace q233 := eq_true q233
                                        have p234 : 0 ≤ ((ji54) : Int) := of_decide_eq_true (by first | (with_reducible assumption) | assumption)
                                        have q234 : (ji54) < (t206.length : Int) := of_decide_eq_true (by first | (with_reducible assumption) | assumption)
                                        obtain ⟨ad234, e234, hx234_0⟩ := Kd.at_int (Kd.R_reads' HO_5.out).2.2 (ji54) p234 q234
                                        obtain rfl : ad233 = ad234 := (by injection e234)
                                        replace p234 := eq_true p234
                                        replace q234 := eq_true q234
                                        go_wp2_with (first | (go_at_call 21; (with_reducible refine (laws_b10Abs.calls (wrap64 ((rd t206 x15_2) - (rd t206 (ji54)))) t235 _ A57.out).mono ?_); rintro e w' ⟨rfl, ⟨nd, rfl⟩⟩; (try first | exact ⟨rfl, _, World.drewN_drewN _ _ _⟩ | exact ⟨rfl, _, Eq.trans (World.drewN_drewN _ _ _) (congrArg (World.drewN _) (Nat.add_assoc _ _ _))⟩)))
                                        repeat (go_quiet (first | (go_at_call 21; (with_reducible refine (laws_b10Abs.calls (wrap64 ((rd t206 x15_2) - (rd t206 (ji54)))) t235 _ A57.out).mono ?_); rintro e w' ⟨rfl, ⟨nd, rfl⟩⟩; (try first | exact ⟨rfl, _, World.drewN_drewN _ _ _⟩ | exact ⟨rfl, _, Eq.trans (World.drewN_drewN _ _ _) (congrArg (World.drewN _) (Nat.add_assoc _ _ _))⟩))); try go_wp2_with (first | (go_at_call 21; (with_reducible refine (laws_b10Abs.calls (wrap64 ((rd t206 x15_2) - (rd t206 (ji54)))) t235 _ A57.out).mono ?_); rintro e w' ⟨rfl, ⟨nd, rfl⟩⟩; (try first | exact ⟨rfl, _, World.drewN_drewN _ _ _⟩ | exact ⟨rfl, _, Eq.trans (World.drewN_drewN _ _ _) (congrArg (World.drewN _) (Nat.add_assoc _ _ _))⟩))))
                                        go_ret
                                        exact ⟨by first | rfl | (simp [errW_none, errW_some] <;> rfl) | (simp only [← hji54]; first | rfl | (simp [errW_none, errW_some] <;> rfl)) | (simp [*, errW_none, errW_some] <;> rfl) | (simp [Int.tdiv_eq_ediv_of_nonneg, *]; done), by repeat (first | (with_reducible first | exact HB.out | apply below_alloc | apply pw_below_drewN | apply below_drew1) | exact HB.out)⟩
                                      · rw [if_neg c58] at H
                                        have c58b0 : decide (t221 < t235) = false := decide_eq_false c58
                                        clear c58
                                        have H' := Aside0.mk H
                                        clear H
                                        have p233 : 0 ≤ (x15_2 : Int) := of_decide_eq_true (by first | (with_reducible assumption) | assumption)
                                        have q233 : x15_2 < (t206.length : Int) := of_decide_eq_true (by first | (with_reducible assumption) | assumption)
                                        obtain ⟨ad233, e233, hx233_0⟩ := Kd.at_int (Kd.R_reads' HO_5.out).2.2 x15_2 p233 q233
                                        cases e233
                                        replace p233 := eq_true p233
                                        replace q233 := eq_true q233
                                        have p234 : 0 ≤ ((ji54) : Int) := of_decide_eq_true (by first | (with_reducible assumption) | assumption)
                                        have q234 : (ji54) < (t206.length : Int) := of_decide_eq_true (by first | (with_reducible assumption) | assumption)
                                        obtain ⟨ad234, e234, hx234_0⟩ := Kd.at_int (Kd.R_reads' HO_5.out).2.2 (ji54) p234 q234
                                        obtain rfl : ad233 = ad234 := (by injection e234)
                                        replace p234 := eq_true p234
                                        replace q234 := eq_true q234
                                        go_wp2_with (first | (go_at_call 21; (with_reducible refine (laws_b10Abs.calls (wrap64 ((rd t206 x15_2) - (rd t206 (ji54)))) t235 _ A57.out).mono ?_); rintro e w' ⟨rfl, ⟨nd, rfl⟩⟩; (try first | exact ⟨rfl, _, World.drewN_drewN _ _ _⟩ | exact ⟨rfl, _, Eq.trans (World.drewN_drewN _ _ _) (congrArg (World.drewN _) (Nat.add_assoc _ _ _))⟩)))
                                        repeat (go_quiet (first | (go_at_call 21; (with_reducible refine (laws_b10Abs.calls (wrap64 ((rd t206 x15_2) - (rd t206 (ji54)))) t235 _ A57.out).mono ?_); rintro e w' ⟨rfl, ⟨nd, rfl⟩⟩; (try first | exact ⟨rfl, _, World.drewN_drewN _ _ _⟩ | exact ⟨rfl, _, Eq.trans (World.drewN_drewN _ _ _) (congrArg (World.drewN _) (Nat.add_assoc _ _ _))⟩))); try go_wp2_with (first | (go_at_call 21; (with_reducible refine (laws_b10Abs.calls (wrap64 ((rd t206 x15_2) - (rd t206 (ji54)))) t235 _ A57.out).mono ?_); rintro e w' ⟨rfl, ⟨nd, rfl⟩⟩; (try first | exact ⟨rfl, _, World.drewN_drewN _ _ _⟩ | exact ⟨rfl, _, Eq.trans (World.drewN_drewN _ _ _) (congrArg (World.drewN _) (Nat.add_assoc _ _ _))⟩))))
                                        go_roundg kj42
                                        case measure => have := HJ11.out; have := HK2.out; have := HK3.out; have := HJ42.out; omega
                                        case rel => exact ⟨(ji54), (by first | rfl | (simp; done) | (simp only [← hji54] <;> (first | rfl | simp)) | (simp [*]; done)), H', ⟨by have := HJ11.out; have := HK2.out; have := HK3.out; have := HJ42.out; omega⟩, ⟨by (with_reducible repeat (first | apply Kd.R_alloc | apply Kd.R_drewN | apply Kd.R_drew)); exact HO_5.out⟩, ⟨by (with_reducible repeat (first | apply Kd.R_alloc | apply Kd.R_drewN | apply Kd.R_drew)); exact HO_8.out⟩, ⟨by (with_reducible repeat (first | apply Kd.S_alloc | apply Kd.S_drewN | apply Kd.S_drew)); exact HO_10.out⟩, ⟨by repeat (first | (with_reducible first | exact HB.out | apply below_alloc | apply pw_below_drewN | apply below_drew1) | exact HB.out)⟩⟩
                                    · rw [if_neg c56] at H
                                      exact absurd H (by simp)
                                  · rw [if_neg c55] at H
                                    exact absurd H (by simp)
                                · rw [if_neg c53] at H
                                  exact absurd H (by simp)
                              · rw [if_neg c52] at H
                                exact absurd H (by simp)
                            · rw [if_neg c51] at H
                              have c51b0 : decide ((wrap64 (x15_2 + 1)) < 24) = false := decide_eq_false c51
                              clear c51
                              have H' := Aside0.mk H
                              clear H
                              go_wp2
                              repeat (go_quiet (fail); try go_wp2)
                              go_roundg kj42
                              case measure => have := HJ11.out; have := HK2.out; have := HK3.out; have := HJ42.out; omega
                              case rel => exact ⟨(wrap64 (x15_2 + 1)), (by first | rfl | (simp; done) | (simp [*]; done) | (simp [Int.tdiv_eq_ediv_of_nonneg, *]; done)), H', ⟨by have := HJ11.out; have := HK2.out; have := HK3.out; have := HJ42.out; omega⟩, ⟨by (with_reducible repeat (first | apply Kd.R_alloc | apply Kd.R_drewN | apply Kd.R_drew)); exact HO_5.out⟩, ⟨by (with_reducible repeat (first | apply Kd.R_alloc | apply Kd.R_drewN | apply Kd.R_drew)); exact HO_8.out⟩, ⟨by (with_reducible repeat (first | apply Kd.S_alloc | apply Kd.S_drewN | apply Kd.S_drew)); exact HO_10.out⟩, ⟨by repeat (first | (with_reducible first | exact HB.out | apply below_alloc | apply pw_below_drewN | apply below_drew1) | exact HB.out)⟩⟩
              · rw [if_neg c31] at H
                have c31b0 : decide (x15_2 < 24) = false := decide_eq_false c31
                clear c31
                by_cases c59 : 0 ≤ t220
                · rw [if_pos c59] at H
                  have c59b0 : decide (0 ≤ t220) = true := decide_eq_true c59
                  clear c59
                  by_cases c60 : t220 < (t206.length : Int)
                  · rw [if_pos c60] at H
                    have c60b0 : decide (t220 < (t206.length : Int)) = true := decide_eq_true c60
                    clear c60
                    obtain ⟨ji61, hji61⟩ : ∃ j_ : Int, (wrap64 (t220 + 1)) = j_ := ⟨_, rfl⟩
                    replace H : (if 0 ≤ (ji61) then (if (ji61) < (t206.length : Int) then ((laws_b10Abs.f (wrap64 ((rd t206 t220) - (rd t206 (ji61))))).bind fun t225 => (some (t225 == t221))) else (none)) else (none)) = some r := by first | (rw [hji61] at H; exact H) | (simp only [hji61] at H ⊢; exact H)
                    have hji61w : (IntKind.i64.wrap (t220 + 1)) = ji61 := (i64_w _).trans hji61
                    by_cases c62 : 0 ≤ (ji61)
                    · rw [if_pos c62] at H
                      have c62b0 : decide (0 ≤ (ji61)) = true := decide_eq_true c62
                      clear c62
                      by_cases c63 : (ji61) < (t206.length : Int)
                      · rw [if_pos c63] at H
                        have c63b0 : decide ((ji61) < (t206.length : Int)) = true := decide_eq_true c63
                        clear c63
                        replace H := Option.bind_eq_some_iff.mp H
                        obtain ⟨t225, A640, H⟩ := H
                        replace H : (some (t225 == t221)) = some r := H
                        have A64 := Aside0.mk A640
                        clear A640
                        obtain rfl := Option.some.inj H
                        have p223 : 0 ≤ (t220 : Int) := of_decide_eq_true (by first | (with_reducible assumption) | assumption)
                        have q223 : t220 < (t206.length : Int) := of_decide_eq_true (by first | (with_reducible assumption) | assumption)
                        obtain ⟨ad223, e223, hx223_0⟩ := Kd.at_int (Kd.R_reads' HO_5.out).2.2 t220 p223 q223
                        cases e223
                        replace p223 := eq_true p223
                        replace q223 := eq_true q223
                        have p224 : 0 ≤ ((ji61) : Int) := of_decide_eq_true (by first | (with_reducible assumption) | assumption)
                        have q224 : (ji61) < (t206.length : Int) := of_decide_eq_true (by first | (with_reducible assumption) | assumption)
                        obtain ⟨ad224, e224, hx224_0⟩ := Kd.at_int (Kd.R_reads' HO_5.out).2.2 (ji61) p224 q224
                        obtain rfl : ad223 = ad224 := (by injection e224)
                        replace p224 := eq_true p224
                        replace q224 := eq_true q224
                        go_wp2_with (first | (go_at_call 21; (with_reducible refine (laws_b10Abs.calls (wrap64 ((rd t206 t220) - (rd t206 (ji61)))) t225 _ A64.out).mono ?_); rintro e w' ⟨rfl, ⟨nd, rfl⟩⟩; (try first | exact ⟨rfl, _, World.drewN_drewN _ _ _⟩ | exact ⟨rfl, _, Eq.trans (World.drewN_drewN _ _ _) (congrArg (World.drewN _) (Nat.add_assoc _ _ _))⟩)))
                        repeat (go_quiet (first | (go_at_call 21; (with_reducible refine (laws_b10Abs.calls (wrap64 ((rd t206 t220) - (rd t206 (ji61)))) t225 _ A64.out).mono ?_); rintro e w' ⟨rfl, ⟨nd, rfl⟩⟩; (try first | exact ⟨rfl, _, World.drewN_drewN _ _ _⟩ | exact ⟨rfl, _, Eq.trans (World.drewN_drewN _ _ _) (congrArg (World.drewN _) (Nat.add_assoc _ _ _))⟩))); try go_wp2_with (first | (go_at_call 21; (with_reducible refine (laws_b10Abs.calls (wrap64 ((rd t206 t220) - (rd t206 (ji61)))) t225 _ A64.out).mono ?_); rintro e w' ⟨rfl, ⟨nd, rfl⟩⟩; (try first | exact ⟨rfl, _, World.drewN_drewN _ _ _⟩ | exact ⟨rfl, _, Eq.trans (World.drewN_drewN _ _ _) (congrArg (World.drewN _) (Nat.add_assoc _ _ _))⟩))))
                        go_ret
                        exact ⟨by first | rfl | (simp [errW_none, errW_some] <;> rfl) | (simp only [← hji61]; first | rfl | (simp [errW_none, errW_some] <;> rfl)) | (simp [*, errW_none, errW_some] <;> rfl) | (simp [Int.tdiv_eq_ediv_of_nonneg, *]; done), by repeat (first | (with_reducible first | exact HB.out | apply below_alloc | apply pw_below_drewN | apply below_drew1) | exact HB.out)⟩
                      · rw [if_neg c63] at H
                        exact absurd H (by simp)
                    · rw [if_neg c62] at H
                      exact absurd H (by simp)
                  · rw [if_neg c60] at H
                    exact absurd H (by simp)
                · rw [if_neg c59] at H
                  exact absurd H (by simp)

/-- THE ONE PURE STATEMENT of laws_FnWatched: yours. -/
def laws_FnWatched.Pure : Prop := ∀ (l0 : List Int) (l1 : List Int), l0.length ≤ maxLen → l0.length * 1 ≤ 140737488351232 → (∀ x ∈ l0, (Lit.int .u8 x).wf = true) → l1.length ≤ maxLen → l1.length * 1 ≤ 140737488351232 → (∀ x ∈ l1, (Lit.int .u8 x).wf = true) → ∃ k, laws_FnWatched.f k l0 l1 = some true
theorem laws_FnWatched.walk (P : laws_FnWatched.Pure) (a0 : Option Addr) (len0 cap0 : Nat) (z0 : List Int) (a1 : Option Addr) (len1 cap1 : Nat) (z1 : List Int) (w : World) (w0 : (a0 = none ∧ len0 = 0 ∧ cap0 = 0 ∧ z0 = []) ∨ ∃ x, a0 = some x ∧ len0 ≤ cap0 ∧ cap0 ≤ maxLen ∧ z0.length = cap0 ∧ (∀ i, i < z0.length → w.cell? (x.add i) = some (.int .u8 (z0.getD i 0))) ∧ ∀ n ∈ z0, (Lit.int .u8 n).wf = true) (y0 : len0 * 1 ≤ 140737488351232) (w1 : (a1 = none ∧ len1 = 0 ∧ cap1 = 0 ∧ z1 = []) ∨ ∃ x, a1 = some x ∧ len1 ≤ cap1 ∧ cap1 ≤ maxLen ∧ z1.length = cap1 ∧ (∀ i, i < z1.length → w.cell? (x.add i) = some (.int .u8 (z1.getD i 0))) ∧ ∀ n ∈ z1, (Lit.int .u8 n).wf = true) (y1 : len1 * 1 ≤ 140737488351232) :
    Calls Try.prog 3 #[.slice a0 len0 cap0, .slice a1 len1 cap1] w fun e w' => e = .returned (.bool true) ∧ Below w.heap.size w w' := by
  obtain ⟨l0, rfl, hr0, hm0, hw0, hc0⟩ := ReadsInt.ofRowC w0
  obtain ⟨l1, rfl, hr1, hm1, hw1, hc1⟩ := ReadsInt.ofRowC w1
  obtain ⟨k, h⟩ := P l0 l1 hm0 y0 hw0 hm1 y1 hw1
  refine (laws_FnWatched.calls k _ _ l0 _ _ l1 true w (Kd.C_of_reads (d := (0 : Int)) (h1 := fun _ => rfl) hr0) hc0 (Kd.C_of_reads (d := (0 : Int)) (h1 := fun _ => rfl) hr1) hc1 h).mono ?_
  rintro e w' ⟨rfl, hd⟩
  exact ⟨rfl, hd⟩

end Go.Proofs.Ytajndapolblhmab.P
/- Plain facts on numbers and lists that every loop's lemma uses. -/
namespace Go.Proofs.Ytajndapolblhmab.P
open Go.RowKit Go.Proofs.Ytajndapolblhmab.P Go.Proofs.YtajndapolblhmabW.PrintWords Go.Proofs.YtajndapolblhmabW.PrintLast Go.Proofs.YtajndapolblhmabW.PrintMore
set_option linter.unusedVariables false
set_option linter.unusedSimpArgs false
theorem w64 (x : Int) (h1 : -9223372036854775808 ≤ x) (h2 : x ≤ 9223372036854775807) : wrap64 x = x := by unfold wrap64; omega
theorem w64s (i : Nat) (h : i < 9223372036854775807) : wrap64 ((i : Int) + 1) = ((i + 1 : Nat) : Int) := by unfold wrap64; omega
theorem wf64 {x : Int} (h : (Lit.int .i64 x).wf = true) : -9223372036854775808 ≤ x ∧ x ≤ 9223372036854775807 := by
  simp only [Lit.wf, IntKind.min, IntKind.max, IntKind.signed, IntKind.bits, Bool.and_eq_true, decide_eq_true_eq, if_true] at h
  omega
theorem wfu8 {x : Int} (h : (Lit.int .u8 x).wf = true) : 0 ≤ x ∧ x ≤ 255 := by
  simp only [Lit.wf, IntKind.min, IntKind.max, IntKind.signed, IntKind.bits, Bool.and_eq_true, decide_eq_true_eq] at h
  simp at h
  omega
theorem rd_at (l : List Int) (i : Nat) (h : i < l.length) : rd l (i : Int) = l[i] := by
  unfold rd
  rw [Int.toNat_natCast, List.getD_eq_getElem?_getD, List.getElem?_eq_getElem h]
  rfl
theorem drop_at (l : List Int) (i : Nat) (h : i < l.length) : l.drop i = rd l (i : Int) :: l.drop (i + 1) := by
  rw [rd_at l i h, List.drop_eq_getElem_cons h]
theorem fill_step {α : Type} (l acc : List α) (i : Nat) (x : α) (hi : i < l.length) (hl : acc.length = l.length) (h : acc.take i = l.take i) (hx : l[i] = x) : (acc.set i x).take (i + 1) = l.take (i + 1) := by
  subst hx
  have hi2 : i < (acc.set i l[i]).length := by rw [List.length_set]; omega
  rw [List.take_succ_eq_append_getElem hi2, List.take_succ_eq_append_getElem hi, List.getElem_set_self, List.take_set_of_le (Nat.le_refl i), h]
def iota (m : Int) : Nat → List Int
  | 0 => []
  | n + 1 => m :: iota (m + 1) n
theorem iota_length (m : Int) (n : Nat) : (iota m n).length = n := by
  induction n generalizing m with
  | zero => rfl
  | succ n ih => simp [iota, ih]
theorem iota_get (m : Int) (n i : Nat) (h : i < (iota m n).length) : (iota m n)[i] = m + i := by
  induction n generalizing m i with
  | zero => rw [iota_length] at h; omega
  | succ n ih =>
    cases i with
    | zero => simp [iota]
    | succ i =>
      have h2 : i < (iota (m + 1) n).length := by rw [iota_length] at h ⊢; omega
      simp only [iota, List.getElem_cons_succ]
      rw [ih (m + 1) i h2]
      omega
theorem bind_some_ {α β : Type} (a : α) (f : α → Option β) : (some a).bind f = f a := rfl
theorem ite_tt (b r : Bool) : (if b = true then some r else some false) = some (b && r) := by cases b <;> rfl
theorem ite_ff (p : Prop) [Decidable p] (r : Bool) : (if p then some false else some r) = some (!decide p && r) := by by_cases h : p <;> simp [h]
theorem ite_pp (p : Prop) [Decidable p] (r : Bool) : (if p then some r else some false) = some (decide p && r) := by by_cases h : p <;> simp [h]
theorem not_ge_dec (a b : Int) : (!decide (a ≥ b)) = decide (a < b) := by by_cases h : a < b <;> simp [h] <;> omega

end Go.Proofs.Ytajndapolblhmab.P
/- A number drawn from an input's bytes lies below its bound. -/
namespace Go.Proofs.Ytajndapolblhmab.P
open Go.RowKit Go.Proofs.Ytajndapolblhmab.P Go.Proofs.YtajndapolblhmabW.PrintWords Go.Proofs.YtajndapolblhmabW.PrintLast Go.Proofs.YtajndapolblhmabW.PrintMore
set_option linter.unusedVariables false
set_option linter.unusedSimpArgs false
theorem u64_in (n : Int) : 0 ≤ IntKind.u64.wrap n ∧ IntKind.u64.wrap n < 18446744073709551616 := by
  simp only [IntKind.wrap, IntKind.bits, IntKind.signed]
  simp
  omega
theorem wraps_u64 (n : Int) (h₀ : 0 ≤ n) (h₁ : n < 2 ^ 64) : IntKind.u64.wrap n = n := by
  simp only [IntKind.wrap, IntKind.bits, IntKind.signed]
  simp
  omega
theorem u64_and255 (x : Int) (h₀ : 0 ≤ x) (h₁ : x < 18446744073709551616) : bits .and .u64 x 255 = x % 256 := bits_mask .u64 64 (by decide) wraps_u64 8 (by decide) x h₀ (by omega)
theorem low_in (n : Int) : 0 ≤ wrap64 (Go.bits .and .u64 (IntKind.u64.wrap n / 1099511627776) 255) ∧ wrap64 (Go.bits .and .u64 (IntKind.u64.wrap n / 1099511627776) 255) ≤ 255 := by
  have h := u64_in n
  have h2 : 0 ≤ IntKind.u64.wrap n / 1099511627776 ∧ IntKind.u64.wrap n / 1099511627776 < 18446744073709551616 := by omega
  rw [u64_and255 _ h2.1 h2.2, w64 _ (by omega) (by omega)]
  omega
theorem next_in (l : List Int) (hl : ∀ x ∈ l, (Lit.int .u8 x).wf = true) (s e : Int) (hs : 0 ≤ s ∧ s ≤ 1000000000000) : ∃ r e', spec_l00Src_next.f l s e = some (r, s + 1, e') ∧ 0 ≤ r ∧ r ≤ 255 := by
  unfold spec_l00Src_next.f
  rw [w64 (s + 1) (by omega) (by omega)]
  by_cases h1 : s < (l.length : Int)
  · obtain ⟨j, rfl⟩ : ∃ j : Nat, s = j := ⟨s.toNat, by omega⟩
    have hr := wfu8 (hl _ (List.getElem_mem (show j < l.length by omega)))
    rw [if_pos h1, if_pos (by omega), if_pos (by omega), rd_at l j (by omega), w64 _ (by omega) (by omega)]
    exact ⟨_, _, rfl, hr.1, hr.2⟩
  · rw [if_neg h1]
    by_cases h2 : s + 1 ≤ (l.length : Int)
    · omega
    · rw [if_neg h2]
      exact ⟨_, _, rfl, (low_in _).1, (low_in _).2⟩
theorem pick_in (l : List Int) (hl : ∀ x ∈ l, (Lit.int .u8 x).wf = true) (s e n : Int) (hs : 0 ≤ s ∧ s ≤ 900000000000) (hn : 1 ≤ n ∧ n ≤ 1000000) : ∃ r s' e', spec_l00Src_pick.f l s e n = some (r, s', e') ∧ (0 ≤ r ∧ r < n) ∧ (s ≤ s' ∧ s' ≤ s + 2) := by
  unfold spec_l00Src_pick.f
  by_cases h1 : n ≤ 1
  · rw [if_pos h1]
    exact ⟨_, _, _, rfl, by omega, by omega⟩
  · rw [if_neg h1]
    obtain ⟨r, e1, h, r1, r2⟩ := next_in l hl s e (by omega)
    rw [h, bind_some_]
    by_cases h2 : n > 200
    · obtain ⟨q, e2, h', q1, q2⟩ := next_in l hl (s + 1) e1 (by omega)
      rw [if_pos h2, h', bind_some_, if_neg (by omega), w64 (r * 256) (by omega) (by omega), w64 (r * 256 + q) (by omega) (by omega)]
      exact ⟨_, _, _, rfl, ⟨Int.tmod_nonneg _ (by omega), Int.tmod_lt_of_pos _ (by omega)⟩, by dsimp only; omega⟩
    · rw [if_neg h2, if_neg (by omega)]
      exact ⟨_, _, _, rfl, ⟨Int.tmod_nonneg _ r1, Int.tmod_lt_of_pos _ (by omega)⟩, by dsimp only; omega⟩

end Go.Proofs.Ytajndapolblhmab.P
/- A test at each of some numbers that follow one another. -/
namespace Go.Proofs.Ytajndapolblhmab.P
open Go.RowKit Go.Proofs.Ytajndapolblhmab.P Go.Proofs.YtajndapolblhmabW.PrintWords Go.Proofs.YtajndapolblhmabW.PrintLast Go.Proofs.YtajndapolblhmabW.PrintMore
set_option linter.unusedVariables false
set_option linter.unusedSimpArgs false
def upTo (p : Nat → Bool) : Nat → Nat → Bool
  | 0, _ => true
  | d + 1, i => p i && upTo p d (i + 1)
theorem upTo_iff (p : Nat → Bool) : ∀ (d i : Nat), upTo p d i = true ↔ ∀ j, i ≤ j → j < i + d → p j = true := by
  intro d
  induction d with
  | zero => intro i; simp [upTo]; intro j h1 h2; omega
  | succ d ih =>
    intro i
    simp only [upTo, Bool.and_eq_true, ih]
    constructor
    · intro ⟨h0, h⟩ j h1 h2
      by_cases e : i = j
      · rw [← e]; exact h0
      · exact h j (by omega) (by omega)
    · intro h
      exact ⟨h i (Nat.le_refl _) (by omega), fun j h1 h2 => h j (by omega) (by omega)⟩

end Go.Proofs.Ytajndapolblhmab.P
/- What is asked of a list of losses. -/
namespace Go.Proofs.Ytajndapolblhmab.P
open Go.RowKit Go.Proofs.Ytajndapolblhmab.P Go.Proofs.YtajndapolblhmabW.PrintWords Go.Proofs.YtajndapolblhmabW.PrintLast Go.Proofs.YtajndapolblhmabW.PrintMore
set_option linter.unusedVariables false
set_option linter.unusedSimpArgs false
def lsOk (l : List S107) (i : Nat) : Bool :=
  decide (0 ≤ (rd_T107 l i).f1 ∧ (rd_T107 l i).f1 ≤ 100000) && decide (0 ≤ (rd_T107 l i).f2 ∧ (rd_T107 l i).f2 ≤ 5) && decide ((rd_T107 l i).f2 ≤ (rd_T107 l i).f0 ∧ (rd_T107 l i).f0 ≤ wrap64 (23 - (rd_T107 l i).f2))
def lsValid (l : List S107) : Bool := upTo (lsOk l) l.length 0 && decide ((l.length : Int) ≤ 12)

end Go.Proofs.Ytajndapolblhmab.P
/- An element of a list of structs, read at an index. -/
namespace Go.Proofs.Ytajndapolblhmab.P
open Go.RowKit Go.Proofs.Ytajndapolblhmab.P Go.Proofs.YtajndapolblhmabW.PrintWords Go.Proofs.YtajndapolblhmabW.PrintLast Go.Proofs.YtajndapolblhmabW.PrintMore
set_option linter.unusedVariables false
set_option linter.unusedSimpArgs false
theorem rdLoss_at (l : List S107) (i : Nat) (h : i < l.length) : rd_T107 l (i : Int) = l[i] := by
  unfold rd_T107
  rw [Int.toNat_natCast, List.getD_eq_getElem?_getD, List.getElem?_eq_getElem h]
  rfl
theorem dropLoss_at (l : List S107) (i : Nat) (h : i < l.length) : l.drop i = rd_T107 l (i : Int) :: l.drop (i + 1) := by
  rw [rdLoss_at l i h, List.drop_eq_getElem_cons h]

end Go.Proofs.Ytajndapolblhmab.P
/- What a law draws is a valid list of few losses. -/
namespace Go.Proofs.Ytajndapolblhmab.P
open Go.RowKit Go.Proofs.Ytajndapolblhmab.P Go.Proofs.YtajndapolblhmabW.PrintWords Go.Proofs.YtajndapolblhmabW.PrintLast Go.Proofs.YtajndapolblhmabW.PrintMore
set_option linter.unusedVariables false
set_option linter.unusedSimpArgs false
theorem rdLoss_app (l : List S107) (g : S107) (i : Nat) (hi : i < (l ++ [g]).length) : rd_T107 (l ++ [g]) i = if i < l.length then rd_T107 l i else g := by
  rw [rdLoss_at _ i hi]
  by_cases h : i < l.length
  · rw [if_pos h, List.getElem_append_left h, rdLoss_at l i h]
  · rw [if_neg h, List.getElem_append_right (by omega)]
    simp
theorem drawLosses_loop (c : List Int) (hc : ∀ x ∈ c, (Lit.int .u8 x).wf = true) : ∀ (d k : Nat) (l : List S107) (s e : Int), d < k → l.length + d ≤ 6 → (∀ i, i < l.length → lsOk l i = true) → (0 ≤ s ∧ s ≤ 1000 + 8 * (l.length : Int)) →
    ∃ r, spec_B10Losses.l0 k l d c s e = some r ∧ lsValid r = true := by
  intro d
  induction d with
  | zero =>
    intro k l s e hk hl hr hs
    obtain ⟨k, rfl⟩ : ∃ m, k = m + 1 := ⟨k - 1, by omega⟩
    simp only [spec_B10Losses.l0]
    rw [if_neg (by omega)]
    refine ⟨l, rfl, ?_⟩
    unfold lsValid
    rw [Bool.and_eq_true]
    exact ⟨(upTo_iff _ _ _).2 (fun j _ hj => hr j (by omega)), by simp; omega⟩
  | succ d ih =>
    intro k l s e hk hl hr hs
    obtain ⟨k, rfl⟩ : ∃ m, k = m + 1 := ⟨k - 1, by omega⟩
    obtain ⟨w, s1, e1, h1, a1, b1⟩ := pick_in c hc s e 6 (by omega) (by omega)
    obtain ⟨b, s2, e2, h2, a2, b2⟩ := pick_in c hc s1 e1 (24 - 2 * w) (by omega) (by omega)
    obtain ⟨f, s3, e3, h3, a3, b3⟩ := pick_in c hc s2 e2 4000 (by omega) (by omega)
    simp only [spec_B10Losses.l0]
    rw [if_pos (by omega), h1]
    simp only [bind_some_]
    rw [w64 (2 * w) (by omega) (by omega), w64 (24 - 2 * w) (by omega) (by omega), h2]
    simp only [bind_some_, h3]
    rw [if_pos (by omega), w64 (w + b) (by omega) (by omega), w64 (((d + 1 : Nat) : Int) - 1) (by omega) (by omega), show ((d + 1 : Nat) : Int) - 1 = (d : Int) by omega]
    refine ih k _ s3 e3 (by omega) (by simp; omega) ?_ (by simp; omega)
    intro i hi
    by_cases q : i < l.length
    · have := hr i q
      unfold lsOk at this ⊢
      rw [rdLoss_app l _ i hi, if_pos q]
      exact this
    · unfold lsOk
      rw [rdLoss_app l _ i hi, if_neg q, w64 (23 - _) (by dsimp only; omega) (by dsimp only; omega)]
      simp only [Bool.and_eq_true, decide_eq_true_eq]
      omega
theorem drawLosses_is (c : List Int) (hc : ∀ x ∈ c, (Lit.int .u8 x).wf = true) (k : Nat) (hk : 10 ≤ k) : ∃ r, spec_B10Losses.f k c = some r ∧ lsValid r = true := by
  unfold spec_B10Losses.f spec_l00From.f
  obtain ⟨a, s1, e1, h1, a1, b1⟩ := pick_in c hc 0 0 6 (by omega) (by omega)
  simp only [bind_some_, h1]
  obtain ⟨n, hn⟩ : ∃ n : Nat, a = n := ⟨a.toNat, by omega⟩
  rw [hn]
  exact drawLosses_loop c hc n k [] s1 e1 (by omega) (by simp; omega) (by simp) (by simp; omega)

end Go.Proofs.Ytajndapolblhmab.P
/- Numbers in a range, as the program asks it of a list. -/
namespace Go.Proofs.Ytajndapolblhmab.P
open Go.RowKit Go.Proofs.Ytajndapolblhmab.P Go.Proofs.YtajndapolblhmabW.PrintWords Go.Proofs.YtajndapolblhmabW.PrintLast Go.Proofs.YtajndapolblhmabW.PrintMore
set_option linter.unusedVariables false
set_option linter.unusedSimpArgs false
theorem areWithin2 (a b lo hi : Int) : impl_areWithin.all lo hi [a, b] = (decide (lo ≤ a ∧ a ≤ hi) && decide (lo ≤ b ∧ b ≤ hi)) := by
  simp [impl_areWithin.all]

end Go.Proofs.Ytajndapolblhmab.P
/- What is asked of a settled list. -/
namespace Go.Proofs.Ytajndapolblhmab.P
open Go.RowKit Go.Proofs.Ytajndapolblhmab.P Go.Proofs.YtajndapolblhmabW.PrintWords Go.Proofs.YtajndapolblhmabW.PrintLast Go.Proofs.YtajndapolblhmabW.PrintMore
set_option linter.unusedVariables false
set_option linter.unusedSimpArgs false
def stOk (l : List Int) : Bool := (l.all fun n => decide (0 ≤ n ∧ n ≤ 2000000)) && decide ((l.length : Int) = 24)
theorem stOk_len {l : List Int} (h : stOk l = true) : l.length = 24 := by
  unfold stOk at h
  simp only [Bool.and_eq_true, decide_eq_true_eq] at h
  omega
theorem stOk_in {l : List Int} (h : stOk l = true) (i : Nat) (hi : i < l.length) : 0 ≤ rd l i ∧ rd l i ≤ 2000000 := by
  unfold stOk at h
  simp only [Bool.and_eq_true, List.all_eq_true, decide_eq_true_eq] at h
  rw [rd_at l i hi]
  exact h.1 _ (List.getElem_mem hi)

end Go.Proofs.Ytajndapolblhmab.P
/- What the program asks of a settled list. -/
namespace Go.Proofs.Ytajndapolblhmab.P
open Go.RowKit Go.Proofs.Ytajndapolblhmab.P Go.Proofs.YtajndapolblhmabW.PrintWords Go.Proofs.YtajndapolblhmabW.PrintLast Go.Proofs.YtajndapolblhmabW.PrintMore
set_option linter.unusedVariables false
set_option linter.unusedSimpArgs false
theorem implSettled_is (l : List Int) : impl_isSettled.f l = some (stOk l) := by
  unfold impl_isSettled.f impl_areWithin.f impl_areWithin.all stOk
  by_cases h : (l.length : Int) = 24
  · rw [if_pos h]; simp [h]
  · rw [if_neg h]; simp [h]

end Go.Proofs.Ytajndapolblhmab.P
/- The levels of a settled list, plainly. -/
namespace Go.Proofs.Ytajndapolblhmab.P
open Go.RowKit Go.Proofs.Ytajndapolblhmab.P Go.Proofs.YtajndapolblhmabW.PrintWords Go.Proofs.YtajndapolblhmabW.PrintLast Go.Proofs.YtajndapolblhmabW.PrintMore
set_option linter.unusedVariables false
set_option linter.unusedSimpArgs false
def levelAt (w s n : Int) : Int := if n ≥ s then 2 else if n ≥ w then 1 else 0
def lvOf (l : List Int) (w s : Int) : List Int × Bool := if stOk l = true ∧ (1 ≤ s ∧ s ≤ 2000000) ∧ (1 ≤ w ∧ w ≤ s) then (l.map (levelAt w s), true) else ([], false)

end Go.Proofs.Ytajndapolblhmab.P
/- The levels of a settled list, as the program tells them. -/
namespace Go.Proofs.Ytajndapolblhmab.P
open Go.RowKit Go.Proofs.Ytajndapolblhmab.P Go.Proofs.YtajndapolblhmabW.PrintWords Go.Proofs.YtajndapolblhmabW.PrintLast Go.Proofs.YtajndapolblhmabW.PrintMore
set_option linter.unusedVariables false
set_option linter.unusedSimpArgs false
theorem implLv_loop (l : List Int) (hb : l.length ≤ 1000000) (w s : Int) : ∀ (d k i : Nat) (acc : List Int), i + d = l.length → d < k → acc.length ≤ i → impl_LevelsOf.l0 k w s acc l l.length i = some (acc ++ (l.drop i).map (levelAt w s), true) := by
  intro d
  induction d with
  | zero =>
    intro k i a hi hk ha
    obtain ⟨k, rfl⟩ : ∃ m, k = m + 1 := ⟨k - 1, by omega⟩
    simp only [impl_LevelsOf.l0]
    rw [if_neg (by omega), List.drop_of_length_le (by omega)]
    simp
  | succ d ih =>
    intro k i a hi hk ha
    obtain ⟨k, rfl⟩ : ∃ m, k = m + 1 := ⟨k - 1, by omega⟩
    have hr := fun x => ih k (i + 1) (a ++ [x]) (by omega) (by omega) (by simp; omega)
    rw [← w64s i (by omega)] at hr
    simp only [impl_LevelsOf.l0, hr]
    rw [if_pos (show (i : Int) < (l.length : Int) by omega), if_pos (show 0 ≤ (i : Int) by omega), if_pos (show (i : Int) < (l.length : Int) by omega), drop_at l i (by omega)]
    have ha2 : a.length < 17592186044416 := by omega
    simp only [List.map_cons, levelAt, if_pos ha2]
    by_cases h1 : rd l i ≥ s
    · rw [if_pos h1, if_pos h1]; simp
    · by_cases h2 : rd l i ≥ w
      · rw [if_neg h1, if_pos h2, if_neg h1, if_pos h2]; simp
      · rw [if_neg h1, if_neg h2, if_neg h1, if_neg h2]; simp
theorem implLv_is (k : Nat) (l : List Int) (w s : Int) (hk : l.length + 5 < k) : impl_LevelsOf.f k l w s = some (lvOf l w s) := by
  obtain ⟨k, rfl⟩ : ∃ m, k = m + 1 := ⟨k - 1, by omega⟩
  unfold impl_LevelsOf.f impl_areWithin.f lvOf
  rw [implSettled_is l, bind_some_]
  simp only [areWithin2, bind_some_, impl_LevelsOf.j0]
  by_cases h : stOk l = true
  · have hl := stOk_len h
    have := implLv_loop l (by omega) w s l.length k 0 [] (by omega) (by omega) (by simp)
    rw [show ((0 : Nat) : Int) = 0 by rfl] at this
    by_cases h1 : (1 ≤ s ∧ s ≤ 2000000) <;> by_cases h2 : (1 ≤ w ∧ w ≤ 2000000) <;> by_cases h3 : w > s
    · rw [if_neg (show ¬ (stOk l = true ∧ (1 ≤ s ∧ s ≤ 2000000) ∧ (1 ≤ w ∧ w ≤ s)) by intro hh; have h9 := hh.2; omega)]
      simp [h, h1, h2, h3]
    · rw [if_pos (show stOk l = true ∧ (1 ≤ s ∧ s ≤ 2000000) ∧ (1 ≤ w ∧ w ≤ s) from ⟨h, h1, by omega⟩)]
      simp [h, h1, h2, h3, this]
    all_goals (rw [if_neg (show ¬ (stOk l = true ∧ (1 ≤ s ∧ s ≤ 2000000) ∧ (1 ≤ w ∧ w ≤ s)) by intro hh; have h9 := hh.2; omega)]; simp [h, h1, h2, h3])
  · simp [h]

end Go.Proofs.Ytajndapolblhmab.P
/- A number lies in a range, as the program asks it. -/
namespace Go.Proofs.Ytajndapolblhmab.P
open Go.RowKit Go.Proofs.Ytajndapolblhmab.P Go.Proofs.YtajndapolblhmabW.PrintWords Go.Proofs.YtajndapolblhmabW.PrintLast Go.Proofs.YtajndapolblhmabW.PrintMore
set_option linter.unusedVariables false
set_option linter.unusedSimpArgs false
theorem within_is (a b c : Int) : impl_within.f a b c = some (decide (b ≤ a ∧ a ≤ c)) := by
  unfold impl_within.f
  by_cases h : b ≤ a <;> simp [h]

end Go.Proofs.Ytajndapolblhmab.P
/- What the program asks of a list of losses. -/
namespace Go.Proofs.Ytajndapolblhmab.P
open Go.RowKit Go.Proofs.Ytajndapolblhmab.P Go.Proofs.YtajndapolblhmabW.PrintWords Go.Proofs.YtajndapolblhmabW.PrintLast Go.Proofs.YtajndapolblhmabW.PrintMore
set_option linter.unusedVariables false
set_option linter.unusedSimpArgs false
theorem implLosses_loop (l : List S107) (hb : l.length ≤ 9223372036854775806) : ∀ (d k i : Nat), i + d = l.length → d < k → impl_ValidLosses.l0 k l l l.length i = some (upTo (lsOk l) d i && decide ((l.length : Int) ≤ 12)) := by
  intro d
  induction d with
  | zero =>
    intro k i hi hk
    obtain ⟨k, rfl⟩ : ∃ m, k = m + 1 := ⟨k - 1, by omega⟩
    simp only [impl_ValidLosses.l0]
    rw [if_neg (by omega)]
    simp [upTo]
  | succ d ih =>
    intro k i hi hk
    obtain ⟨k, rfl⟩ : ∃ m, k = m + 1 := ⟨k - 1, by omega⟩
    have hr := ih k (i + 1) (by omega) (by omega)
    rw [← w64s i (by omega)] at hr
    simp only [impl_ValidLosses.l0, within_is, bind_some_, hr]
    rw [if_pos (by omega), if_pos (by omega), if_pos (by omega)]
    simp only [upTo, lsOk, ite_tt, Bool.and_assoc]
    generalize decide (0 ≤ (rd_T107 l i).f1 ∧ (rd_T107 l i).f1 ≤ 100000) = a
    generalize decide (0 ≤ (rd_T107 l i).f2 ∧ (rd_T107 l i).f2 ≤ 5) = b
    cases a <;> cases b <;> rfl
theorem implLosses_is (k : Nat) (l : List S107) (hb : l.length ≤ 9223372036854775806) (hk : l.length < k) : impl_ValidLosses.f k l = some (lsValid l) := by
  unfold impl_ValidLosses.f lsValid
  exact implLosses_loop l hb l.length k 0 (by omega) hk

end Go.Proofs.Ytajndapolblhmab.P
/- The parts of a trough, plainly: what the sums of a binomial row take of a volume. -/
namespace Go.Proofs.Ytajndapolblhmab.P
open Go.RowKit Go.Proofs.Ytajndapolblhmab.P Go.Proofs.YtajndapolblhmabW.PrintWords Go.Proofs.YtajndapolblhmabW.PrintLast Go.Proofs.YtajndapolblhmabW.PrintMore
set_option linter.unusedVariables false
set_option linter.unusedSimpArgs false
def tRow : Nat → List Int
  | 0 => [1]
  | 1 => [1, 2, 1]
  | 2 => [1, 4, 6, 4, 1]
  | 3 => [1, 6, 15, 20, 15, 6, 1]
  | 4 => [1, 8, 28, 56, 70, 56, 28, 8, 1]
  | 5 => [1, 10, 45, 120, 210, 252, 210, 120, 45, 10, 1]
  | _ => []
def tAll : Nat → Int
  | 0 => 1
  | 1 => 4
  | 2 => 16
  | 3 => 64
  | 4 => 256
  | 5 => 1024
  | _ => 1
def tParts (v all : Int) : Int → List Int → List Int
  | _, [] => []
  | s, x :: xs => (v * (s + x) / all - v * s / all) :: tParts v all (s + x) xs
def trough (v : Int) (w : Nat) : List Int := tParts v (tAll w) 0 (tRow w)
def tSum (s : Int) (l : List Int) : Int := l.foldl (· + ·) s
theorem tRow_len (w : Nat) (h : w ≤ 5) : (tRow w).length = 2 * w + 1 := by
  rcases w with _ | _ | _ | _ | _ | _ | w <;> first | rfl | omega
theorem tParts_len (v all : Int) : ∀ (l : List Int) (s : Int), (tParts v all s l).length = l.length
  | [], _ => rfl
  | x :: xs, s => by simp [tParts, tParts_len v all xs]
theorem trough_len (v : Int) (w : Nat) (h : w ≤ 5) : (trough v w).length = 2 * w + 1 := by
  rw [trough, tParts_len, tRow_len w h]
/-- A row whose numbers are none negative, and whose sum, begun with s, is at most 1024. -/
def tFine (s : Int) : List Int → Bool
  | [] => decide (0 ≤ s ∧ s ≤ 1024)
  | x :: xs => decide (0 ≤ s ∧ s ≤ 1024) && decide (0 ≤ x) && tFine (s + x) xs
theorem tFine_head {s : Int} {l : List Int} (h : tFine s l = true) : 0 ≤ s ∧ s ≤ 1024 := by
  cases l with
  | nil => simpa [tFine] using h
  | cons x xs => simp only [tFine, Bool.and_eq_true, decide_eq_true_eq] at h; exact h.1.1
theorem tFine_tail {s x : Int} {l : List Int} (h : tFine s (x :: l) = true) : tFine (s + x) l = true := by
  simp only [tFine, Bool.and_eq_true, decide_eq_true_eq] at h; exact h.2
theorem tRow_fine (w : Nat) : tFine 0 (tRow w) = true := by
  rcases w with _ | _ | _ | _ | _ | _ | w <;> first | decide | rfl
theorem tAll_pos (w : Nat) : 1 ≤ tAll w ∧ tAll w ≤ 1024 := by
  rcases w with _ | _ | _ | _ | _ | _ | w <;> simp [tAll]
theorem mul_in (v c : Int) (hv : 0 ≤ v ∧ v ≤ 100000) (hc : 0 ≤ c ∧ c ≤ 1024) : 0 ≤ v * c ∧ v * c ≤ 102400000 := by
  constructor
  · exact Int.mul_nonneg hv.1 hc.1
  · calc v * c ≤ 100000 * c := Int.mul_le_mul_of_nonneg_right hv.2 hc.1
      _ ≤ 100000 * 1024 := by omega
      _ = 102400000 := by decide
theorem div_in (x a : Int) (hx : 0 ≤ x ∧ x ≤ 102400000) (ha : 1 ≤ a) : 0 ≤ x / a ∧ x / a ≤ 102400000 := by
  constructor
  · exact Int.ediv_nonneg hx.1 (by omega)
  · exact Int.le_trans (Int.ediv_le_self _ hx.1) hx.2

end Go.Proofs.Ytajndapolblhmab.P
/- The program's trough is the plain one. -/
namespace Go.Proofs.Ytajndapolblhmab.P
open Go.RowKit Go.Proofs.Ytajndapolblhmab.P Go.Proofs.YtajndapolblhmabW.PrintWords Go.Proofs.YtajndapolblhmabW.PrintLast Go.Proofs.YtajndapolblhmabW.PrintMore
set_option linter.unusedVariables false
set_option linter.unusedSimpArgs false
theorem tRow_step (w : Nat) (hw : w ≤ 5) (j : Nat) (hj : j < 2 * w + 1) : wrap64 (Int.tdiv (wrap64 (rd (tRow w) j * wrap64 (2 * (w : Int) - (j : Int)))) ((j + 1 : Nat) : Int)) = rd (tRow w) ((j + 1 : Nat) : Int) := by
  have : ∀ w, w < 6 → ∀ j, j < 11 → j < 2 * w + 1 → wrap64 (Int.tdiv (wrap64 (rd (tRow w) (j : Nat) * wrap64 (2 * (w : Nat) - (j : Nat)))) ((j + 1 : Nat) : Int)) = rd (tRow w) ((j + 1 : Nat) : Int) := by decide +kernel
  exact this w (by omega) j (by omega) hj
theorem tAll_shr (w : Nat) (hw : w ≤ 5) (x : Int) : shr .i64 x (IntKind.u64.wrap (wrap64 (2 * (w : Int)))) = x / tAll w := by
  have : ∀ w, w < 6 → (2 : Int) ^ min (IntKind.u64.wrap (wrap64 (2 * (w : Nat)))).toNat IntKind.i64.bits = tAll w := by decide +kernel
  unfold shr
  rw [this w (by omega)]
theorem implTr_l0 (v : Int) (hv : 0 ≤ v ∧ v ≤ 100000) (w : Nat) (hw : w ≤ 5) : ∀ (d k j : Nat) (acc : List Int) (s : Int), j + d = 2 * w + 1 → d < k → acc.length ≤ j → tFine s ((tRow w).drop j) = true →
    impl_trough.l0 k v w acc (rd (tRow w) j) s (v * s / tAll w) (2 * (w : Int) + 1) j = some (acc ++ tParts v (tAll w) s ((tRow w).drop j)) := by
  have hl := tRow_len w hw
  have ha := tAll_pos w
  intro d
  induction d with
  | zero =>
    intro k j acc s hj hk hacc hf
    obtain ⟨k, rfl⟩ : ∃ m, k = m + 1 := ⟨k - 1, by omega⟩
    simp only [impl_trough.l0]
    rw [if_neg (by omega), List.drop_of_length_le (by omega)]
    simp [tParts]
  | succ d ih =>
    intro k j acc s hj hk hacc hf
    obtain ⟨k, rfl⟩ : ∃ m, k = m + 1 := ⟨k - 1, by omega⟩
    rw [drop_at (tRow w) j (by omega)] at hf ⊢
    have hs := tFine_head hf
    have ht := tFine_tail hf
    have hs2 := tFine_head ht
    have m1 := mul_in v _ hv hs
    have m2 := mul_in v _ hv hs2
    have d1 := div_in _ _ m1 ha.1
    have d2 := div_in _ _ m2 ha.1
    have hst := tRow_step w hw j (by omega)
    simp only [impl_trough.l0, tParts]
    have hu : 0 ≤ IntKind.u64.wrap (wrap64 (2 * (w : Int))) := by
      have : ∀ w, w < 6 → 0 ≤ IntKind.u64.wrap (wrap64 (2 * (w : Nat))) := by decide +kernel
      exact this w (by omega)
    rw [if_pos (by omega), if_pos hu, if_pos (by omega), tAll_shr w hw, w64s j (by omega), if_neg (by omega), w64 (s + rd (tRow w) j) (by omega) (by omega), w64 (v * (s + rd (tRow w) j)) (by omega) (by omega),
      w64 (v * (s + rd (tRow w) j) / tAll w - v * s / tAll w) (by omega) (by omega)]
    have h2w : wrap64 (2 * (w : Int)) = 2 * (w : Int) := w64 _ (by omega) (by omega)
    rw [h2w, hst, ih k (j + 1) _ _ (by omega) (by omega) (by simp; omega) ht]
    simp
theorem implTrough_is (k : Nat) (v : Int) (w : Nat) (hv : 0 ≤ v ∧ v ≤ 100000) (hw : w ≤ 5) (hk : 200 ≤ k) : impl_trough.f k v w = some (trough v w) := by
  unfold impl_trough.f
  have h2w : wrap64 (2 * (w : Int)) = 2 * (w : Int) := w64 _ (by omega) (by omega)
  rw [h2w, w64 (2 * (w : Int) + 1) (by omega) (by omega)]
  have h1 : rd (tRow w) ((0 : Nat) : Int) = 1 := by
    rcases w with _ | _ | _ | _ | _ | _ | w <;> first | rfl | omega
  have h0 : v * 0 / tAll w = 0 := by simp
  have := implTr_l0 v hv w hw (2 * w + 1) k 0 [] 0 (by omega) (by omega) (by simp) (tRow_fine w)
  rw [h1, h0] at this
  simpa [trough] using this

end Go.Proofs.Ytajndapolblhmab.P
/- What losses settle, plainly. -/
namespace Go.Proofs.Ytajndapolblhmab.P
open Go.RowKit Go.Proofs.Ytajndapolblhmab.P Go.Proofs.YtajndapolblhmabW.PrintWords Go.Proofs.YtajndapolblhmabW.PrintLast Go.Proofs.YtajndapolblhmabW.PrintMore
set_option linter.unusedVariables false
set_option linter.unusedSimpArgs false
def layT (o : Nat) (t : List Int) : Nat → Nat → List Int → List Int
  | 0, _, p => p
  | d + 1, j, p => layT o t d (j + 1) (p.set (o + j) (wrap64 (rd p ((o + j : Nat) : Int) + rd t (j : Int))))
theorem layT_len (o : Nat) (t : List Int) : ∀ (d j : Nat) (p : List Int), (layT o t d j p).length = p.length
  | 0, _, _ => rfl
  | d + 1, j, p => by
    simp only [layT]
    rw [layT_len o t d (j + 1), List.length_set]
def layLs (l : List S107) : Nat → Nat → List Int → List Int
  | 0, _, p => p
  | d + 1, i, p => layLs l d (i + 1) (layT ((rd_T107 l (i : Int)).f0 - (rd_T107 l (i : Int)).f2).toNat (trough (rd_T107 l (i : Int)).f1 (rd_T107 l (i : Int)).f2.toNat) (2 * (rd_T107 l (i : Int)).f2.toNat + 1) 0 p)
theorem layLs_len (l : List S107) : ∀ (d i : Nat) (p : List Int), (layLs l d i p).length = p.length
  | 0, _, _ => rfl
  | d + 1, i, p => by
    simp only [layLs]
    rw [layLs_len l d (i + 1), layT_len]
def settleP (l : List S107) : List Int := layLs l l.length 0 (List.replicate 24 0)
theorem settleP_len (l : List S107) : (settleP l).length = 24 := by
  unfold settleP
  rw [layLs_len, List.length_replicate]
theorem lsValid_at {l : List S107} (h : lsValid l = true) (i : Nat) (hi : i < l.length) : (0 ≤ (rd_T107 l i).f1 ∧ (rd_T107 l i).f1 ≤ 100000) ∧ (0 ≤ (rd_T107 l i).f2 ∧ (rd_T107 l i).f2 ≤ 5) ∧ ((rd_T107 l i).f2 ≤ (rd_T107 l i).f0 ∧ (rd_T107 l i).f0 ≤ 23 - (rd_T107 l i).f2) := by
  unfold lsValid at h
  simp only [Bool.and_eq_true, decide_eq_true_eq] at h
  have h2 := (upTo_iff _ _ _).mp h.1 i (by omega) (by omega)
  simp only [lsOk, Bool.and_eq_true, decide_eq_true_eq] at h2
  obtain ⟨⟨a, b⟩, c⟩ := h2
  rw [w64 (23 - _) (by omega) (by omega)] at c
  exact ⟨a, b, c⟩
theorem lsValid_len {l : List S107} (h : lsValid l = true) : l.length ≤ 12 := by
  unfold lsValid at h
  simp only [Bool.and_eq_true, decide_eq_true_eq] at h
  omega

end Go.Proofs.Ytajndapolblhmab.P
/- What losses settle, as the program reckons it. -/
namespace Go.Proofs.Ytajndapolblhmab.P
open Go.RowKit Go.Proofs.Ytajndapolblhmab.P Go.Proofs.YtajndapolblhmabW.PrintWords Go.Proofs.YtajndapolblhmabW.PrintLast Go.Proofs.YtajndapolblhmabW.PrintMore
set_option linter.unusedVariables false
set_option linter.unusedSimpArgs false
theorem implSettle_l1 (l : List S107) (n : Int) (i : Nat) (hi : i ≤ 1000) (a b c : Int) (o : Nat) (t : List Int) (ht : t.length ≤ 11) (hf : -100 ≤ a ∧ a ≤ 100 ∧ 0 ≤ c ∧ c ≤ 100) (ho : a - c = o) (hot : o + t.length ≤ 24) : ∀ (d k j : Nat) (p : List Int), j + d = t.length → p.length = 24 → impl_SettlementsOf.l1 (k + d + 1) p l n i t t.length j a b c = impl_SettlementsOf.l0 k (layT o t d j p) l n ((i + 1 : Nat) : Int) := by
  intro d
  induction d with
  | zero =>
    intro k j p hj hp
    simp only [impl_SettlementsOf.l1, layT]
    rw [if_neg (by omega), w64s i (by omega)]
  | succ d ih =>
    intro k j p hj hp
    have hz := fun (p : List Int) (h : p.length = 24) => ih k (j + 1) p (by omega) h
    obtain ⟨q, hq⟩ : ∃ q, q = k + d + 1 := ⟨_, rfl⟩
    rw [← hq] at hz
    rw [show k + (d + 1) + 1 = q + 1 by omega]
    have c1 : (j : Int) < (t.length : Int) := by omega
    have c2 : (0 : Int) ≤ (j : Int) := by omega
    have c3 : (0 : Int) ≤ ((o + j : Nat) : Int) := by omega
    have c4 : ((o + j : Nat) : Int) < (p.length : Int) := by omega
    have b1 : -9223372036854775808 ≤ a - c := by omega
    have b2 : a - c ≤ 9223372036854775807 := by omega
    have b3 : -9223372036854775808 ≤ (o : Int) + (j : Int) := by omega
    have b4 : (o : Int) + (j : Int) ≤ 9223372036854775807 := by omega
    have b5 : (o : Int) + (j : Int) = ((o + j : Nat) : Int) := by omega
    have b6 : j < 9223372036854775807 := by omega
    have c7 := w64s j b6
    have e1 := (w64 (a - c) b1 b2).trans ho
    have e2 := (w64 ((o : Int) + (j : Int)) b3 b4).trans b5
    simp only [impl_SettlementsOf.l1, layT]
    rw [if_pos c1, if_pos c2, if_pos c1, e1, e2, if_pos c3, if_pos c4, c7, Int.toNat_natCast]
    have hz2 := hz (p.set (o + j) (wrap64 (rd p ((o + j : Nat) : Int) + rd t (j : Int)))) (by rw [List.length_set]; exact hp)
    rw [hz2]
theorem implSettle_l0 (l : List S107) (hv : lsValid l = true) : ∀ (d k i : Nat) (p : List Int), i + d = l.length → p.length = 24 → 300 + 14 * d ≤ k → impl_SettlementsOf.l0 k p l l.length i = some (layLs l d i p, true) := by
  have h12 := lsValid_len hv
  intro d
  induction d with
  | zero =>
    intro k i p hi hp hk
    obtain ⟨k, rfl⟩ : ∃ m, k = m + 1 := ⟨k - 1, by omega⟩
    simp only [impl_SettlementsOf.l0, layLs]
    rw [if_neg (by omega)]
  | succ d ih =>
    intro k i p hi hp hk
    obtain ⟨k, rfl⟩ : ∃ m, k = m + 1 := ⟨k - 1, by omega⟩
    obtain ⟨g1, g2, g3⟩ := lsValid_at hv i (by omega)
    obtain ⟨w, hw⟩ : ∃ w : Nat, (rd_T107 l i).f2 = w := ⟨(rd_T107 l i).f2.toNat, by omega⟩
    obtain ⟨o, ho⟩ : ∃ o : Nat, (rd_T107 l i).f0 - (rd_T107 l i).f2 = o := ⟨((rd_T107 l i).f0 - (rd_T107 l i).f2).toNat, by omega⟩
    have htl := trough_len (rd_T107 l i).f1 w (by omega)
    obtain ⟨m, hm⟩ : ∃ m, k = m + (2 * w + 1) + 1 := ⟨k - (2 * w + 1) - 1, by omega⟩
    have h1 := implSettle_l1 l l.length i (by omega) (rd_T107 l i).f0 (rd_T107 l i).f1 (rd_T107 l i).f2 o (trough (rd_T107 l i).f1 w) (by omega) (by omega) ho (by omega) (2 * w + 1) m 0 p (by omega) hp
    have hz := ih m (i + 1) (layT o (trough (rd_T107 l i).f1 w) (2 * w + 1) 0 p) (by omega) (by rw [layT_len]; exact hp) (by omega)
    have ht := implTrough_is k (rd_T107 l i).f1 w g1 (by omega) (by omega)
    rw [← hw] at ht
    simp only [impl_SettlementsOf.l0, layLs]
    rw [if_pos (by omega), if_pos (by omega), if_pos (by omega), ht, bind_some_, ho, show (rd_T107 l i).f2.toNat = w by omega, Int.toNat_natCast, hm]
    exact h1.trans hz
theorem implSettle_is (k : Nat) (l : List S107) (hb : l.length ≤ 1048576) (hk : 500 + l.length ≤ k) : impl_SettlementsOf.f k l = some (if lsValid l = true then (settleP l, true) else ([], false)) := by
  unfold impl_SettlementsOf.f settleP
  rw [implLosses_is k l (by omega) (by omega), bind_some_]
  by_cases h : lsValid l = true
  · have := lsValid_len h
    rw [if_pos h, if_pos h, if_pos (by omega)]
    exact implSettle_l0 l h l.length k 0 _ (by omega) (by simp) (by omega)
  · rw [if_neg h, if_neg h]

end Go.Proofs.Ytajndapolblhmab.P
/- Where a settled list is steepest, plainly. -/
namespace Go.Proofs.Ytajndapolblhmab.P
open Go.RowKit Go.Proofs.Ytajndapolblhmab.P Go.Proofs.YtajndapolblhmabW.PrintWords Go.Proofs.YtajndapolblhmabW.PrintLast Go.Proofs.YtajndapolblhmabW.PrintMore
set_option linter.unusedVariables false
set_option linter.unusedSimpArgs false
def absW (x : Int) : Int := if x < wrap64 (-x) then wrap64 (-x) else x
def steepFrom (l : List Int) : Nat → Nat → Int → Int → Int × Int × Bool
  | 0, _, at_, best => (at_, best, true)
  | d + 1, i, at_, best => if absW (wrap64 (rd l i - rd l (i + 1 : Nat))) > best then steepFrom l d (i + 1) i (absW (wrap64 (rd l i - rd l (i + 1 : Nat)))) else steepFrom l d (i + 1) at_ best
def steepOf (l : List Int) : Int × Int × Bool := if stOk l = true then steepFrom l 23 0 0 (-1) else (0, 0, false)

end Go.Proofs.Ytajndapolblhmab.P
/- Where a settled list is steepest, as the program finds it. -/
namespace Go.Proofs.Ytajndapolblhmab.P
open Go.RowKit Go.Proofs.Ytajndapolblhmab.P Go.Proofs.YtajndapolblhmabW.PrintWords Go.Proofs.YtajndapolblhmabW.PrintLast Go.Proofs.YtajndapolblhmabW.PrintMore
set_option linter.unusedVariables false
set_option linter.unusedSimpArgs false
theorem implAbs_is (x : Int) : impl_abs.f x = some (absW x) := rfl
theorem implSteep_loop (l : List Int) (hl : l.length = 24) : ∀ (d k i : Nat) (at_ best : Int), i + d = 23 → d < k → impl_SteepestOf.l0 k l at_ best i = some (steepFrom l d i at_ best) := by
  intro d
  induction d with
  | zero =>
    intro k i a b hi hk
    obtain ⟨k, rfl⟩ : ∃ m, k = m + 1 := ⟨k - 1, by omega⟩
    simp only [impl_SteepestOf.l0]
    rw [if_neg (by omega)]
    rfl
  | succ d ih =>
    intro k i a b hi hk
    obtain ⟨k, rfl⟩ : ∃ m, k = m + 1 := ⟨k - 1, by omega⟩
    simp only [impl_SteepestOf.l0, steepFrom]
    rw [w64s i (by omega), if_pos (by omega), if_pos (by omega), if_pos (by omega), if_pos (by omega), if_pos (by omega), implAbs_is, bind_some_, ih k (i + 1) _ _ (by omega) (by omega), ih k (i + 1) _ _ (by omega) (by omega)]
    split <;> rfl
theorem implSteep_is (k : Nat) (l : List Int) (hk2 : 30 ≤ k) : impl_SteepestOf.f k l = some (steepOf l) := by
  unfold impl_SteepestOf.f steepOf
  rw [implSettled_is l, bind_some_]
  by_cases h : stOk l = true
  · rw [if_pos h, if_pos h]
    exact implSteep_loop l (stOk_len h) 23 k 0 0 (-1) (by omega) (by omega)
  · rw [if_neg h, if_neg h]

end Go.Proofs.Ytajndapolblhmab.P
/- The stretches of a settled list, plainly. -/
namespace Go.Proofs.Ytajndapolblhmab.P
open Go.RowKit Go.Proofs.Ytajndapolblhmab.P Go.Proofs.YtajndapolblhmabW.PrintWords Go.Proofs.YtajndapolblhmabW.PrintLast Go.Proofs.YtajndapolblhmabW.PrintMore
set_option linter.unusedVariables false
set_option linter.unusedSimpArgs false
def strGo (l : List Int) (w : Int) : Nat → Nat → List (List Int) → List (List Int)
  | 0, _, acc => acc
  | d + 1, i, acc => if rd l (i : Int) < w then strGo l w d (i + 1) acc else
      if 0 < i ∧ rd l ((i - 1 : Nat) : Int) ≥ w then strGo l w d (i + 1) (acc.set (acc.length - 1) ((rd_L3 acc ((acc.length - 1 : Nat) : Int)).set 1 (i : Int))) else strGo l w d (i + 1) (acc ++ [[(i : Int), (i : Int)]])
def strRow (r : Nat × Nat) : List Int := [(r.1 : Int), (r.2 : Int)]
def strInv (l : List Int) (w : Int) (rs : List (Nat × Nat)) (i : Nat) : Prop :=
  (∀ r ∈ rs, r.1 ≤ r.2 ∧ r.2 < i) ∧ (∀ x : Nat, x < i → ((∃ r ∈ rs, r.1 ≤ x ∧ x ≤ r.2) ↔ rd l (x : Int) ≥ w)) ∧ (∀ m : Nat, i = m + 1 → rd l (m : Int) ≥ w → ∃ rs0 a, rs = rs0 ++ [(a, m)])
theorem strInv_nil (l : List Int) (w : Int) : strInv l w [] 0 := ⟨fun r h => by simp at h, fun x h => by omega, fun m h => by omega⟩
theorem strInv_low {l : List Int} {w : Int} {rs : List (Nat × Nat)} {i : Nat} (h : strInv l w rs i) (h1 : rd l (i : Int) < w) : strInv l w rs (i + 1) := by
  obtain ⟨a, b, c⟩ := h
  refine ⟨fun r hr => by have := a r hr; omega, ?_, ?_⟩
  · intro x hx
    by_cases e : x = i
    · subst e
      constructor
      · rintro ⟨r, hr, h2, h3⟩
        have := a r hr
        omega
      · intro h2
        omega
    · exact b x (by omega)
  · intro m hm hw
    have : m = i := by omega
    subst this
    omega
theorem strInv_new {l : List Int} {w : Int} {rs : List (Nat × Nat)} {i : Nat} (h : strInv l w rs i) (h1 : rd l (i : Int) ≥ w) : strInv l w (rs ++ [(i, i)]) (i + 1) := by
  obtain ⟨a, b, c⟩ := h
  refine ⟨?_, ?_, ?_⟩
  · intro r hr
    rcases List.mem_append.mp hr with h2 | h2
    · have := a r h2; omega
    · rw [List.mem_singleton] at h2
      subst h2
      dsimp only
      omega
  · intro x hx
    by_cases e : x = i
    · subst e
      exact ⟨fun _ => h1, fun _ => ⟨(x, x), by simp, Nat.le_refl _, Nat.le_refl _⟩⟩
    · rw [← b x (by omega)]
      constructor
      · rintro ⟨r, hr, h2, h3⟩
        rcases List.mem_append.mp hr with h4 | h4
        · exact ⟨r, h4, h2, h3⟩
        · rw [List.mem_singleton] at h4
          subst h4
          dsimp only at h2 h3
          omega
      · rintro ⟨r, hr, h2, h3⟩
        exact ⟨r, List.mem_append_left _ hr, h2, h3⟩
  · intro m hm hw
    have : m = i := by omega
    subst this
    exact ⟨rs, m, rfl⟩
theorem strInv_grow {l : List Int} {w : Int} {rs : List (Nat × Nat)} {a m : Nat} (h : strInv l w (rs ++ [(a, m)]) (m + 1)) (h1 : rd l ((m + 1 : Nat) : Int) ≥ w) : strInv l w (rs ++ [(a, m + 1)]) (m + 1 + 1) := by
  obtain ⟨q, b, c⟩ := h
  have hq := q (a, m) (by simp)
  dsimp only at hq
  refine ⟨?_, ?_, ?_⟩
  · intro r hr
    rcases List.mem_append.mp hr with h2 | h2
    · have := q r (List.mem_append_left _ h2); omega
    · rw [List.mem_singleton] at h2
      subst h2
      dsimp only
      omega
  · intro x hx
    by_cases e : x = m + 1
    · subst e
      exact ⟨fun _ => h1, fun _ => ⟨(a, m + 1), by simp, by dsimp only; omega, Nat.le_refl _⟩⟩
    · rw [← b x (by omega)]
      constructor
      · rintro ⟨r, hr, h2, h3⟩
        rcases List.mem_append.mp hr with h4 | h4
        · exact ⟨r, List.mem_append_left _ h4, h2, h3⟩
        · rw [List.mem_singleton] at h4
          subst h4
          dsimp only at h2 h3
          exact ⟨(a, m), by simp, h2, by dsimp only; omega⟩
      · rintro ⟨r, hr, h2, h3⟩
        rcases List.mem_append.mp hr with h4 | h4
        · exact ⟨r, List.mem_append_left _ h4, h2, h3⟩
        · rw [List.mem_singleton] at h4
          subst h4
          dsimp only at h2 h3
          exact ⟨(a, m + 1), by simp, h2, by dsimp only; omega⟩
  · intro k hk hw
    have : k = m + 1 := by omega
    subst this
    exact ⟨rs, a, rfl⟩
theorem rdL_at (l : List (List Int)) (i : Nat) (h : i < l.length) : rd_L3 l (i : Int) = l[i] := by
  unfold rd_L3
  rw [Int.toNat_natCast, List.getD_eq_getElem?_getD, List.getElem?_eq_getElem h]
  rfl
theorem strGo_ok (l : List Int) (w : Int) : ∀ (d i : Nat) (rs : List (Nat × Nat)), strInv l w rs i → ∃ rs2, strGo l w d i (rs.map strRow) = rs2.map strRow ∧ strInv l w rs2 (i + d) ∧ rs2.length ≤ rs.length + d
  | 0, i, rs, h => ⟨rs, rfl, h, Nat.le_refl _⟩
  | d + 1, i, rs, h => by
    rw [show i + (d + 1) = (i + 1) + d by omega]
    simp only [strGo]
    by_cases h1 : rd l (i : Int) < w
    · rw [if_pos h1]
      obtain ⟨rs2, q1, q2, q3⟩ := strGo_ok l w d (i + 1) rs (strInv_low h h1)
      exact ⟨rs2, q1, q2, by omega⟩
    · rw [if_neg h1]
      by_cases h2 : 0 < i ∧ rd l ((i - 1 : Nat) : Int) ≥ w
      · rw [if_pos h2]
        obtain ⟨m, rfl⟩ : ∃ m, i = m + 1 := ⟨i - 1, by omega⟩
        obtain ⟨rs0, a, rfl⟩ := h.2.2 m rfl h2.2
        have e : ((rs0 ++ [(a, m)]).map strRow).set (((rs0 ++ [(a, m)]).map strRow).length - 1) ((rd_L3 ((rs0 ++ [(a, m)]).map strRow) ((((rs0 ++ [(a, m)]).map strRow).length - 1 : Nat) : Int)).set 1 ((m + 1 : Nat) : Int)) = (rs0 ++ [(a, m + 1)]).map strRow := by
          rw [rdL_at _ _ (by simp)]
          simp [strRow]
        rw [e]
        obtain ⟨rs2, q1, q2, q3⟩ := strGo_ok l w d (m + 1 + 1) _ (strInv_grow h (by omega))
        exact ⟨rs2, q1, q2, by simp only [List.length_append, List.length_singleton] at q3 ⊢; omega⟩
      · rw [if_neg h2]
        have e : rs.map strRow ++ [[(i : Int), (i : Int)]] = (rs ++ [(i, i)]).map strRow := by simp [strRow]
        rw [e]
        obtain ⟨rs2, q1, q2, q3⟩ := strGo_ok l w d (i + 1) _ (strInv_new h (by omega))
        exact ⟨rs2, q1, q2, by simp only [List.length_append, List.length_singleton] at q3 ⊢; omega⟩

end Go.Proofs.Ytajndapolblhmab.P
/- The stretches of a settled list, as the program tells them. -/
namespace Go.Proofs.Ytajndapolblhmab.P
open Go.RowKit Go.Proofs.Ytajndapolblhmab.P Go.Proofs.YtajndapolblhmabW.PrintWords Go.Proofs.YtajndapolblhmabW.PrintLast Go.Proofs.YtajndapolblhmabW.PrintMore
set_option linter.unusedVariables false
set_option linter.unusedSimpArgs false
theorem implStr_loop (l : List Int) (hb : l.length ≤ 1000000) (w : Int) : ∀ (d k i : Nat) (rs : List (Nat × Nat)), i + d = l.length → d < k → rs.length ≤ i → strInv l w rs i → impl_StretchesAt.l0 k l w (rs.map strRow) l l.length i = some (strGo l w d i (rs.map strRow), true) := by
  intro d
  induction d with
  | zero =>
    intro k i rs hi hk hl h
    obtain ⟨k, rfl⟩ : ∃ m, k = m + 1 := ⟨k - 1, by omega⟩
    simp only [impl_StretchesAt.l0, strGo]
    rw [if_neg (by omega)]
  | succ d ih =>
    intro k i rs hi hk hl h
    obtain ⟨k, rfl⟩ : ∃ m, k = m + 1 := ⟨k - 1, by omega⟩
    simp only [impl_StretchesAt.l0, strGo]
    rw [if_pos (by omega), if_pos (by omega), if_pos (by omega), w64s i (by omega)]
    by_cases h1 : rd l (i : Int) < w
    · rw [if_pos h1, if_pos h1]
      exact ih k (i + 1) rs (by omega) (by omega) (by omega) (strInv_low h h1)
    · rw [if_neg h1, if_neg h1]
      have e2 : rs.map strRow ++ [[(i : Int), (i : Int)]] = (rs ++ [(i, i)]).map strRow := by simp [strRow]
      have hnew := ih k (i + 1) (rs ++ [(i, i)]) (by omega) (by omega) (by simp; omega) (strInv_new h (by omega))
      rw [← e2] at hnew
      by_cases h0 : 0 < i
      · have e : wrap64 ((i : Int) - 1) = ((i - 1 : Nat) : Int) := by rw [w64 _ (by omega) (by omega)]; omega
        rw [if_pos (show (i : Int) > 0 by omega), e, if_pos (by omega), if_pos (by omega)]
        by_cases h2 : rd l ((i - 1 : Nat) : Int) ≥ w
        · rw [if_pos h2, if_pos (And.intro h0 h2)]
          obtain ⟨m, rfl⟩ : ∃ m, i = m + 1 := ⟨i - 1, by omega⟩
          obtain ⟨rs0, a, rfl⟩ := h.2.2 m rfl h2
          have e3 : ((rs0 ++ [(a, m)]).map strRow).set (((rs0 ++ [(a, m)]).map strRow).length - 1) ((rd_L3 ((rs0 ++ [(a, m)]).map strRow) ((((rs0 ++ [(a, m)]).map strRow).length - 1 : Nat) : Int)).set 1 ((m + 1 : Nat) : Int)) = (rs0 ++ [(a, m + 1)]).map strRow := by
            rw [rdL_at _ _ (by simp)]
            simp [strRow]
          have hl2 : ((rs0 ++ [(a, m)]).map strRow).length = rs0.length + 1 := by simp
          have hl3 : (rs0 ++ [(a, m)]).length = rs0.length + 1 := by simp
          have e4 : wrap64 ((((rs0 ++ [(a, m)]).map strRow).length : Int) - 1) = ((((rs0 ++ [(a, m)]).map strRow).length - 1 : Nat) : Int) := by rw [w64 _ (by omega) (by omega)]; omega
          have hrow : 1 < ((rd_L3 ((rs0 ++ [(a, m)]).map strRow) ((((rs0 ++ [(a, m)]).map strRow).length - 1 : Nat) : Int)).length : Int) := by
            rw [rdL_at _ _ (by simp)]
            simp [strRow]
          rw [e4, if_pos (by omega), if_pos (by omega), if_pos hrow, Int.toNat_natCast, show (1 : Int).toNat = 1 from rfl, e3]
          exact ih k (m + 1 + 1) _ (by omega) (by omega) (by simp; omega) (strInv_grow h (by omega))
        · rw [if_neg h2, if_neg (show ¬ (0 < i ∧ rd l ((i - 1 : Nat) : Int) ≥ w) from fun q => h2 q.2), if_pos (by simp; omega)]
          exact hnew
      · rw [if_neg (show ¬ (i : Int) > 0 by omega), if_neg (show ¬ (0 < i ∧ rd l ((i - 1 : Nat) : Int) ≥ w) from fun q => h0 q.1), if_pos (by simp; omega)]
        exact hnew
theorem implStr_is (l : List Int) (w : Int) (hl : stOk l = true) (hw : 1 ≤ w ∧ w ≤ 2000000) : ∃ rs, (∀ k : Nat, 50 ≤ k → impl_StretchesAt.f k l w = some (rs.map strRow, true)) ∧ strInv l w rs 24 ∧ rs.length ≤ 24 := by
  have h24 := stOk_len hl
  obtain ⟨rs, h1, h2, hlen⟩ := strGo_ok l w l.length 0 [] (strInv_nil l w)
  refine ⟨rs, ?_, by rw [h24, Nat.zero_add] at h2; exact h2, by rw [h24] at hlen; simpa using hlen⟩
  intro k hk
  obtain ⟨k, rfl⟩ : ∃ m, k = m + 1 := ⟨k - 1, by omega⟩
  have h3 := implStr_loop l (by omega) w l.length k 0 [] (by omega) (by omega) (by simp) (strInv_nil l w)
  unfold impl_StretchesAt.f
  rw [implSettled_is, bind_some_, if_pos hl, within_is, bind_some_, decide_eq_true hw]
  simp only [impl_StretchesAt.j0]
  rw [if_neg (by simp), ← h1]
  exact h3

end Go.Proofs.Ytajndapolblhmab.P
/- The parts of a trough add up to its volume, none is negative, and opposite parts differ by at most 1. -/
namespace Go.Proofs.Ytajndapolblhmab.P
open Go.RowKit Go.Proofs.Ytajndapolblhmab.P Go.Proofs.YtajndapolblhmabW.PrintWords Go.Proofs.YtajndapolblhmabW.PrintLast Go.Proofs.YtajndapolblhmabW.PrintMore
set_option linter.unusedVariables false
set_option linter.unusedSimpArgs false
def tPre : List Int → Nat → Int
  | _, 0 => 0
  | [], _ => 0
  | x :: xs, n + 1 => x + tPre xs n
theorem tParts_rd (v all : Int) : ∀ (l : List Int) (s : Int) (i : Nat), i < l.length → rd (tParts v all s l) i = v * (s + tPre l (i + 1)) / all - v * (s + tPre l i) / all
  | [], _, i, h => by simp at h
  | x :: xs, s, 0, _ => by
    show (v * (s + x) / all - v * s / all) = _
    simp [tPre]
  | x :: xs, s, i + 1, h => by
    have h2 : i < xs.length := by simpa using h
    have ih := tParts_rd v all xs (s + x) i h2
    have e : rd (tParts v all s (x :: xs)) ((i + 1 : Nat) : Int) = rd (tParts v all (s + x) xs) (i : Int) := by
      rw [rd_at _ (i + 1) (by rw [tParts_len]; exact h), rd_at _ i (by rw [tParts_len]; exact h2)]
      rfl
    rw [e, ih]
    simp only [tPre, Int.add_assoc]
theorem trough_rd (v : Int) (w i : Nat) (hw : w ≤ 5) (hi : i < 2 * w + 1) : rd (trough v w) i = v * tPre (tRow w) (i + 1) / tAll w - v * tPre (tRow w) i / tAll w := by
  have := tParts_rd v (tAll w) (tRow w) 0 i (by rw [tRow_len w hw]; exact hi)
  simpa [trough] using this
theorem tPre_facts (w i : Nat) (hw : w ≤ 5) (hi : i < 2 * w + 2) : (0 ≤ tPre (tRow w) i ∧ tPre (tRow w) i ≤ 1024) ∧ tPre (tRow w) i ≤ tPre (tRow w) (i + 1) ∧ tPre (tRow w) (2 * w + 1 - i) = tAll w - tPre (tRow w) i := by
  have : ∀ w, w < 6 → ∀ i, i < 12 → i < 2 * w + 2 → (0 ≤ tPre (tRow w) i ∧ tPre (tRow w) i ≤ 1024) ∧ tPre (tRow w) i ≤ tPre (tRow w) (i + 1) ∧ tPre (tRow w) (2 * w + 1 - i) = tAll w - tPre (tRow w) i := by decide +kernel
  exact this w (by omega) i (by omega) hi
theorem div_sym (w : Nat) (hw : w ≤ 5) (v X Y : Int) (h : X ≤ Y) : 0 ≤ Y / tAll w - X / tAll w ∧ -1 ≤ (Y / tAll w - X / tAll w) - ((v * tAll w - X) / tAll w - (v * tAll w - Y) / tAll w) ∧ (Y / tAll w - X / tAll w) - ((v * tAll w - X) / tAll w - (v * tAll w - Y) / tAll w) ≤ 1 := by
  rcases w with _ | _ | _ | _ | _ | _ | w
  · simp only [tAll]; omega
  · simp only [tAll]; omega
  · simp only [tAll]; omega
  · simp only [tAll]; omega
  · simp only [tAll]; omega
  · simp only [tAll]; omega
  · omega
theorem trough_part (v : Int) (w i : Nat) (hv : 0 ≤ v ∧ v ≤ 100000) (hw : w ≤ 5) (hi : i < 2 * w + 1) :
    (0 ≤ rd (trough v w) i ∧ rd (trough v w) i ≤ 102400000) ∧ -1 ≤ rd (trough v w) i - rd (trough v w) ((2 * w - i : Nat) : Int) ∧ rd (trough v w) i - rd (trough v w) ((2 * w - i : Nat) : Int) ≤ 1 := by
  have f1 := tPre_facts w i hw (by omega)
  have f2 := tPre_facts w (i + 1) hw (by omega)
  have ha := tAll_pos w
  have m1 := mul_in v _ hv f1.1
  have m2 := mul_in v _ hv f2.1
  have d1 := div_in _ _ m1 ha.1
  have d2 := div_in _ _ m2 ha.1
  have hXY : v * tPre (tRow w) i ≤ v * tPre (tRow w) (i + 1) := Int.mul_le_mul_of_nonneg_left f1.2.1 hv.1
  have hs := div_sym w hw v _ _ hXY
  rw [trough_rd v w i hw hi, trough_rd v w (2 * w - i) hw (by omega)]
  have e1 : 2 * w - i + 1 = 2 * w + 1 - i := by omega
  have e2 : 2 * w - i = 2 * w + 1 - (i + 1) := by omega
  rw [e1, f1.2.2, e2, f2.2.2, Int.mul_sub, Int.mul_sub]
  omega
theorem sumT (v all : Int) (hv : 0 ≤ v ∧ v ≤ 100000) (ha : 1 ≤ all ∧ all ≤ 1024) : ∀ (l : List Int) (s : Int), tFine s l = true → (tParts v all s l).foldl (fun a x => wrap64 (a + x)) (v * s / all) = v * (s + tPre l l.length) / all
  | [], s, _ => by simp [tParts, tPre]
  | x :: xs, s, h => by
    have ht := tFine_tail h
    have hs2 := tFine_head ht
    have m2 := mul_in v _ hv hs2
    have d2 := div_in _ _ m2 ha.1
    simp only [tParts, List.foldl_cons, List.length_cons, tPre]
    rw [show v * s / all + (v * (s + x) / all - v * s / all) = v * (s + x) / all by omega, w64 _ (by omega) (by omega), sumT v all hv ha xs (s + x) ht, Int.add_assoc]
theorem trough_sum (v : Int) (w : Nat) (hv : 0 ≤ v ∧ v ≤ 100000) (hw : w ≤ 5) : (trough v w).foldl (fun a x => wrap64 (a + x)) 0 = v := by
  have ha := tAll_pos w
  have := sumT v (tAll w) hv ha (tRow w) 0 (tRow_fine w)
  have e0 : v * 0 / tAll w = 0 := by simp
  have e1 : tPre (tRow w) (tRow w).length = tAll w := by
    have : ∀ w, w < 6 → tPre (tRow w) (tRow w).length = tAll w := by decide +kernel
    exact this w (by omega)
  rw [e0, e1] at this
  rw [trough, this, Int.zero_add, Int.mul_ediv_cancel _ (by omega)]

end Go.Proofs.Ytajndapolblhmab.P
/- What valid losses settle is a settled list. -/
namespace Go.Proofs.Ytajndapolblhmab.P
open Go.RowKit Go.Proofs.Ytajndapolblhmab.P Go.Proofs.YtajndapolblhmabW.PrintWords Go.Proofs.YtajndapolblhmabW.PrintLast Go.Proofs.YtajndapolblhmabW.PrintMore
set_option linter.unusedVariables false
set_option linter.unusedSimpArgs false
theorem rd_set (l : List Int) (i j : Nat) (v : Int) (hj : j < l.length) : rd (l.set i v) (j : Int) = if i = j then v else rd l (j : Int) := by
  rw [rd_at _ j (by rw [List.length_set]; exact hj), List.getElem_set, rd_at l j hj]
theorem trough_le (v : Int) (w i : Nat) (hv : 0 ≤ v ∧ v ≤ 100000) (hw : w ≤ 5) (hi : i < 2 * w + 1) : 0 ≤ rd (trough v w) i ∧ rd (trough v w) i ≤ v := by
  have f1 := tPre_facts w i hw (by omega)
  have f2 := tPre_facts w (i + 1) hw (by omega)
  have f3 := tPre_facts w (2 * w + 1 - (i + 1)) hw (by omega)
  have ha := tAll_pos w
  have m1 := mul_in v _ hv f1.1
  have d1 := div_in _ _ m1 ha.1
  have h1 := (trough_part v w i hv hw hi).1.1
  refine ⟨h1, ?_⟩
  have hXY : v * tPre (tRow w) (i + 1) ≤ v * tAll w := Int.mul_le_mul_of_nonneg_left (by have := f2.2.2; have := f3.1.1; omega) hv.1
  have h2 : v * tPre (tRow w) (i + 1) / tAll w ≤ v * tAll w / tAll w := Int.ediv_le_ediv (by omega) hXY
  rw [Int.mul_ediv_cancel _ (by omega)] at h2
  rw [trough_rd v w i hw hi]
  omega
theorem layT_in (o : Nat) (t : List Int) (v M : Int) (hv : 0 ≤ v ∧ v ≤ 1000000) (hM : 0 ≤ M ∧ M ≤ 100000000) (ht : ∀ j : Nat, j < t.length → 0 ≤ rd t (j : Int) ∧ rd t (j : Int) ≤ v) : ∀ (d j : Nat) (p : List Int), j + d = t.length → o + t.length ≤ p.length → (∀ i : Nat, i < p.length → 0 ≤ rd p (i : Int) ∧ (o + j ≤ i → rd p (i : Int) ≤ M) ∧ rd p (i : Int) ≤ M + v) → ∀ i : Nat, i < p.length → 0 ≤ rd (layT o t d j p) (i : Int) ∧ rd (layT o t d j p) (i : Int) ≤ M + v
  | 0, j, p, _, _, h => fun i hi => ⟨(h i hi).1, (h i hi).2.2⟩
  | d + 1, j, p, hj, hl, h => by
    intro i hi
    simp only [layT]
    have h1 := h (o + j) (by omega)
    have h2 := ht j (by omega)
    have h3 := h1.2.1 (Nat.le_refl _)
    refine layT_in o t v M hv hM ht d (j + 1) _ (by omega) (by rw [List.length_set]; exact hl) ?_ i (by rw [List.length_set]; exact hi)
    intro q hq
    rw [List.length_set] at hq
    rw [rd_set p (o + j) q _ hq, w64 _ (by omega) (by omega)]
    have h4 := h q hq
    by_cases e : o + j = q
    · rw [if_pos e]
      exact ⟨by omega, fun h5 => by omega, by omega⟩
    · rw [if_neg e]
      exact ⟨h4.1, fun h5 => h4.2.1 (by omega), h4.2.2⟩
theorem layLs_in (l : List S107) (hv : lsValid l = true) : ∀ (d i : Nat) (p : List Int), i + d = l.length → p.length = 24 → (∀ q : Nat, q < 24 → 0 ≤ rd p (q : Int) ∧ rd p (q : Int) ≤ 100000 * i) → ∀ q : Nat, q < 24 → 0 ≤ rd (layLs l d i p) (q : Int) ∧ rd (layLs l d i p) (q : Int) ≤ 100000 * l.length
  | 0, i, p, hi, hp, h => fun q hq => by have := h q hq; simp only [layLs]; omega
  | d + 1, i, p, hi, hp, h => by
    have h12 := lsValid_len hv
    obtain ⟨g1, g2, g3⟩ := lsValid_at hv i (by omega)
    simp only [layLs]
    have htl := trough_len (rd_T107 l i).f1 (rd_T107 l i).f2.toNat (by omega)
    refine layLs_in l hv d (i + 1) _ (by omega) (by rw [layT_len]; exact hp) ?_
    intro q hq
    have := layT_in ((rd_T107 l (i : Int)).f0 - (rd_T107 l (i : Int)).f2).toNat (trough (rd_T107 l (i : Int)).f1 (rd_T107 l (i : Int)).f2.toNat) 100000 (100000 * i) (by omega) (by omega) (fun j hj => by
      have := trough_le (rd_T107 l i).f1 (rd_T107 l i).f2.toNat j g1 (by omega) (by omega)
      omega) (2 * (rd_T107 l (i : Int)).f2.toNat + 1) 0 p (by omega) (by omega) (fun q hq => by
      have := h q (by omega)
      exact ⟨this.1, fun _ => this.2, by omega⟩) q (by omega)
    omega
theorem settleP_ok (l : List S107) (hv : lsValid l = true) : stOk (settleP l) = true := by
  have h12 := lsValid_len hv
  have h24 := settleP_len l
  unfold stOk
  simp only [Bool.and_eq_true, List.all_eq_true, decide_eq_true_eq]
  refine ⟨?_, by omega⟩
  intro x hx
  obtain ⟨i, hi, rfl⟩ := List.getElem_of_mem hx
  rw [← rd_at _ i hi]
  have := layLs_in l hv l.length 0 (List.replicate 24 0) (by omega) (by simp) (fun q hq => by
    rw [rd_at _ q (by simp; exact hq), List.getElem_replicate]
    omega) i (by omega)
  unfold settleP
  omega

end Go.Proofs.Ytajndapolblhmab.P
