/- What the claim of FnExactLossesOf bears, part 1: functions of the program as plain Lean functions, with proofs that the code comes to their answers, and lemmas on them. -/
import Derived.Test.YtajndapolblhmabCFnExactLossesOf0
-- Walks of this claim's functions, laid by a program of this session.
namespace Go.Proofs.Ytajndapolblhmab.P
open Go.RowKit Go.Proofs.YtajndapolblhmabW.PrintWords Go.Proofs.YtajndapolblhmabW.PrintLast Go.Proofs.YtajndapolblhmabW.PrintMore
attribute [local go_sem] max2_int min2_int max_two min_two max_three min_three max_four min_four   -- for this text's walks alone
set_option linter.unusedVariables false
set_option linter.unusedSimpArgs false

/-! ### laws_szGroutS: function 55 -/
def laws_szGroutS.f (l0 : List (S152)) (a1 : Int) : Option (Int) := if (wrap64 (a1 - (l0.length : Int))) < 0 then (some (-1)) else (some (wrap64 (a1 - (l0.length : Int))))
set_option maxHeartbeats 8000000 in
set_option maxRecDepth 100000 in
theorem laws_szGroutS.calls (A0 : Option Addr) (c0 : Nat) (l0 : List (S152)) (a1 : Int) (r : Int) (w : World) (hr0 : Kd.C k152 w A0 l0.length l0) (hc0 : l0.length ≤ c0) (h : laws_szGroutS.f l0 a1 = some r) :
    Calls Try.prog 55 #[.slice A0 l0.length c0, .int .i64 a1] w fun e w' => e = .returned (.int .i64 r) ∧ Drawn0 w w' := by
  have HR0 := Aside0.mk hr0
  have HC0 := Aside0.mk hc0
  clear hr0 hc0
  have H : (if (wrap64 (a1 - (l0.length : Int))) < 0 then (some (-1)) else (some (wrap64 (a1 - (l0.length : Int))))) = some r := h
  clear h
  by_cases c3 : (wrap64 (a1 - (l0.length : Int))) < 0
  · rw [if_pos c3] at H
    have c3b0 : decide ((wrap64 (a1 - (l0.length : Int))) < 0) = true := decide_eq_true c3
    clear c3
    obtain rfl := Option.some.inj H
    go_enter Try.func55, Try.ntmps55
    go_wp2
    go_ret
    exact ⟨by first | rfl | (simp; done) | (simp [*]; done) | (simp [Int.tdiv_eq_ediv_of_nonneg, *]; done), by repeat (first | exact Drawn0.refl _ | apply Drawn0.step)⟩
  · rw [if_neg c3] at H
    have c3b0 : decide ((wrap64 (a1 - (l0.length : Int))) < 0) = false := decide_eq_false c3
    clear c3
    obtain rfl := Option.some.inj H
    go_enter Try.func55, Try.ntmps55
    go_wp2
    go_ret
    exact ⟨by first | rfl | (simp; done) | (simp [*]; done) | (simp [Int.tdiv_eq_ediv_of_nonneg, *]; done), by repeat (first | exact Drawn0.refl _ | apply Drawn0.step)⟩

/-! ### spec_l07Grouts: function 111 -/
def spec_l07Grouts.l0 : Nat → List (S148) → Int → Option (Bool)
  | 0, _, _ => none
  | k + 1, x0, x3 => if x3 < (x0.length : Int) then (if 0 ≤ x3 then ((spec_l00In.f ((rd_T148 x0 x3).f0) 0 60).bind fun t855 => (if t855 = true then ((spec_l07Litres.f ((rd_T148 x0 x3).f1)).bind fun t856 => (if t856 = true then ((spec_l07Litres.f ((rd_T148 x0 x3).f2)).bind fun t857 => (if t857 = true then ((spec_l00In.f ((rd_T148 x0 x3).f3) 0 100).bind fun t858 => (if t858 = true then (if x3 > 0 then (if 0 ≤ (wrap64 (x3 - 1)) then (if (wrap64 (x3 - 1)) < (x0.length : Int) then (if ((rd_T148 x0 (wrap64 (x3 - 1))).f0) ≥ ((rd_T148 x0 x3).f0) then (some false) else (spec_l07Grouts.l0 k x0 (wrap64 (x3 + 1)))) else (none)) else (none)) else (spec_l07Grouts.l0 k x0 (wrap64 (x3 + 1)))) else (some false))) else (some false))) else (some false))) else (some false))) else (none)) else (some (decide ((x0.length : Int) ≤ 12)))
def spec_l07Grouts.f (k : Nat) (l0 : List (S148)) : Option (Bool) := spec_l07Grouts.l0 k l0 0
theorem spec_l07Grouts.mono_l : ∀ k, (∀ y0 y1, LeO (spec_l07Grouts.l0 k y0 y1) (spec_l07Grouts.l0 (k + 1) y0 y1))
  | 0 => fun _ _ r h => by simp [spec_l07Grouts.l0] at h
  | k + 1 => by
    have ih0 := spec_l07Grouts.mono_l k
    · intro y0 y1
      unfold spec_l07Grouts.l0
      repeat' first
      | (with_reducible exact ih0 _ _)
      | (with_reducible exact LeO.refl _)
      | (with_reducible exact LeO.none _)
      | (with_reducible refine LeO.ite ?_ ?_)
      | (with_reducible refine LeO.bind ?_ (fun _ => ?_))
      | exact ih0 _ _
      | exact LeO.none _
      | refine LeO.ite ?_ ?_
      | refine LeO.bind ?_ (fun _ => ?_)
theorem spec_l07Grouts.mono : ∀ a0 k, LeO (spec_l07Grouts.f k a0) (spec_l07Grouts.f (k + 1) a0) := by
  intro a0 k
  have ih0 := spec_l07Grouts.mono_l k
  unfold spec_l07Grouts.f
  repeat' first
      | (with_reducible exact ih0 _ _)
      | (with_reducible exact LeO.refl _)
      | (with_reducible exact LeO.none _)
      | (with_reducible refine LeO.ite ?_ ?_)
      | (with_reducible refine LeO.bind ?_ (fun _ => ?_))
      | exact ih0 _ _
      | exact LeO.none _
      | refine LeO.ite ?_ ?_
      | refine LeO.bind ?_ (fun _ => ?_)
set_option maxHeartbeats 8000000 in
set_option maxRecDepth 100000 in
theorem spec_l07Grouts.calls (k : Nat) (A0 : Option Addr) (c0 : Nat) (l0 : List (S148)) (r : Bool) (w : World) (hr0 : Kd.C k148 w A0 l0.length l0) (hc0 : l0.length ≤ c0) (h : spec_l07Grouts.f k l0 = some r) :
    Calls Try.prog 111 #[.slice A0 l0.length c0] w fun e w' => e = .returned (.bool r) ∧ Below w.heap.size w w' := by
  have hu148 := Try.underlying148
  have HR0 := Aside0.mk hr0
  have HC0 := Aside0.mk hc0
  clear hr0 hc0
  have HB := Aside0.mk (Below.refl w.heap.size w)
  have H : (spec_l07Grouts.l0 k l0 0) = some r := h
  clear h
  have H' := Aside0.mk H
  clear H
  go_enter Try.func111, Try.ntmps111
  go_wp2
  repeat (go_quiet (fail); try go_wp2)
  go_loopg [3] k (fun kq v3 w' => ∃ (x3_1 : Int), v3 = .int .i64 x3_1 ∧ Aside0 (spec_l07Grouts.l0 kq l0 x3_1 = some r) ∧ Aside0 (kq ≤ k) ∧ Aside0 (Below w.heap.size w w'))
  case atStart => exact ⟨(0), (by first | rfl | (simp; done) | (simp [*]; done) | (simp [Int.tdiv_eq_ediv_of_nonneg, *]; done)), H', ⟨Nat.le_refl _⟩, ⟨by repeat (first | (with_reducible first | exact HB.out | apply below_alloc | apply pw_below_drewN | apply below_drew1) | exact HB.out)⟩⟩
  case round =>
    clear H'
    try clear c1
    obtain ⟨x3_1, rfl, HA, HK1, HB⟩ := hrel
    cases gk with
    | zero => exact absurd HA.out (by simp [spec_l07Grouts.l0])
    | succ k1 =>
      have H := HA.out
      clear HA
      simp only [spec_l07Grouts.l0] at H
      by_cases c2 : x3_1 < (l0.length : Int)
      · rw [if_pos c2] at H
        have c2b0 : decide (x3_1 < (l0.length : Int)) = true := decide_eq_true c2
        clear c2
        by_cases c3 : 0 ≤ x3_1
        · rw [if_pos c3] at H
          have c3b0 : decide (0 ≤ x3_1) = true := decide_eq_true c3
          clear c3
          replace H := Option.bind_eq_some_iff.mp H
          obtain ⟨t855, A40, H⟩ := H
          replace H : (if t855 = true then ((spec_l07Litres.f ((rd_T148 l0 x3_1).f1)).bind fun t856 => (if t856 = true then ((spec_l07Litres.f ((rd_T148 l0 x3_1).f2)).bind fun t857 => (if t857 = true then ((spec_l00In.f ((rd_T148 l0 x3_1).f3) 0 100).bind fun t858 => (if t858 = true then (if x3_1 > 0 then (if 0 ≤ (wrap64 (x3_1 - 1)) then (if (wrap64 (x3_1 - 1)) < (l0.length : Int) then (if ((rd_T148 l0 (wrap64 (x3_1 - 1))).f0) ≥ ((rd_T148 l0 x3_1).f0) then (some false) else (spec_l07Grouts.l0 k1 l0 (wrap64 (x3_1 + 1)))) else (none)) else (none)) else (spec_l07Grouts.l0 k1 l0 (wrap64 (x3_1 + 1)))) else (some false))) else (some false))) else (some false))) else (some false)) = some r := H
          have A4 := Aside0.mk A40
          clear A40
          by_cases c5 : t855 = true
          · subst c5
            have H1 : ((spec_l07Litres.f ((rd_T148 l0 x3_1).f1)).bind fun t856 => (if t856 = true then ((spec_l07Litres.f ((rd_T148 l0 x3_1).f2)).bind fun t857 => (if t857 = true then ((spec_l00In.f ((rd_T148 l0 x3_1).f3) 0 100).bind fun t858 => (if t858 = true then (if x3_1 > 0 then (if 0 ≤ (wrap64 (x3_1 - 1)) then (if (wrap64 (x3_1 - 1)) < (l0.length : Int) then (if ((rd_T148 l0 (wrap64 (x3_1 - 1))).f0) ≥ ((rd_T148 l0 x3_1).f0) then (some false) else (spec_l07Grouts.l0 k1 l0 (wrap64 (x3_1 + 1)))) else (none)) else (none)) else (spec_l07Grouts.l0 k1 l0 (wrap64 (x3_1 + 1)))) else (some false))) else (some false))) else (some false))) = some r := by rw [if_pos rfl] at H; exact H
            clear H
            have H := H1
            clear H1
            replace H := Option.bind_eq_some_iff.mp H
            obtain ⟨t856, A60, H⟩ := H
            replace H : (if t856 = true then ((spec_l07Litres.f ((rd_T148 l0 x3_1).f2)).bind fun t857 => (if t857 = true then ((spec_l00In.f ((rd_T148 l0 x3_1).f3) 0 100).bind fun t858 => (if t858 = true then (if x3_1 > 0 then (if 0 ≤ (wrap64 (x3_1 - 1)) then (if (wrap64 (x3_1 - 1)) < (l0.length : Int) then (if ((rd_T148 l0 (wrap64 (x3_1 - 1))).f0) ≥ ((rd_T148 l0 x3_1).f0) then (some false) else (spec_l07Grouts.l0 k1 l0 (wrap64 (x3_1 + 1)))) else (none)) else (none)) else (spec_l07Grouts.l0 k1 l0 (wrap64 (x3_1 + 1)))) else (some false))) else (some false))) else (some false)) = some r := H
            have A6 := Aside0.mk A60
            clear A60
            by_cases c7 : t856 = true
            · subst c7
              have H1 : ((spec_l07Litres.f ((rd_T148 l0 x3_1).f2)).bind fun t857 => (if t857 = true then ((spec_l00In.f ((rd_T148 l0 x3_1).f3) 0 100).bind fun t858 => (if t858 = true then (if x3_1 > 0 then (if 0 ≤ (wrap64 (x3_1 - 1)) then (if (wrap64 (x3_1 - 1)) < (l0.length : Int) then (if ((rd_T148 l0 (wrap64 (x3_1 - 1))).f0) ≥ ((rd_T148 l0 x3_1).f0) then (some false) else (spec_l07Grouts.l0 k1 l0 (wrap64 (x3_1 + 1)))) else (none)) else (none)) else (spec_l07Grouts.l0 k1 l0 (wrap64 (x3_1 + 1)))) else (some false))) else (some false))) = some r := by rw [if_pos rfl] at H; exact H
              clear H
              have H := H1
              clear H1
              replace H := Option.bind_eq_some_iff.mp H
              obtain ⟨t857, A80, H⟩ := H
              replace H : (if t857 = true then ((spec_l00In.f ((rd_T148 l0 x3_1).f3) 0 100).bind fun t858 => (if t858 = true then (if x3_1 > 0 then (if 0 ≤ (wrap64 (x3_1 - 1)) then (if (wrap64 (x3_1 - 1)) < (l0.length : Int) then (if ((rd_T148 l0 (wrap64 (x3_1 - 1))).f0) ≥ ((rd_T148 l0 x3_1).f0) then (some false) else (spec_l07Grouts.l0 k1 l0 (wrap64 (x3_1 + 1)))) else (none)) else (none)) else (spec_l07Grouts.l0 k1 l0 (wrap64 (x3_1 + 1)))) else (some false))) else (some false)) = some r := H
              have A8 := Aside0.mk A80
              clear A80
              by_cases c9 : t857 = true
              · subst c9
                have H1 : ((spec_l00In.f ((rd_T148 l0 x3_1).f3) 0 100).bind fun t858 => (if t858 = true then (if x3_1 > 0 then (if 0 ≤ (wrap64 (x3_1 - 1)) then (if (wrap64 (x3_1 - 1)) < (l0.length : Int) then (if ((rd_T148 l0 (wrap64 (x3_1 - 1))).f0) ≥ ((rd_T148 l0 x3_1).f0) then (some false) else (spec_l07Grouts.l0 k1 l0 (wrap64 (x3_1 + 1)))) else (none)) else (none)) else (spec_l07Grouts.l0 k1 l0 (wrap64 (x3_1 + 1)))) else (some false))) = some r := by rw [if_pos rfl] at H; exact H
                clear H
                have H := H1
                clear H1
                replace H := Option.bind_eq_some_iff.mp H
                obtain ⟨t858, A100, H⟩ := H
                replace H : (if t858 = true then (if x3_1 > 0 then (if 0 ≤ (wrap64 (x3_1 - 1)) then (if (wrap64 (x3_1 - 1)) < (l0.length : Int) then (if ((rd_T148 l0 (wrap64 (x3_1 - 1))).f0) ≥ ((rd_T148 l0 x3_1).f0) then (some false) else (spec_l07Grouts.l0 k1 l0 (wrap64 (x3_1 + 1)))) else (none)) else (none)) else (spec_l07Grouts.l0 k1 l0 (wrap64 (x3_1 + 1)))) else (some false)) = some r := H
                have A10 := Aside0.mk A100
                clear A100
                by_cases c11 : t858 = true
                · subst c11
                  have H1 : (if x3_1 > 0 then (if 0 ≤ (wrap64 (x3_1 - 1)) then (if (wrap64 (x3_1 - 1)) < (l0.length : Int) then (if ((rd_T148 l0 (wrap64 (x3_1 - 1))).f0) ≥ ((rd_T148 l0 x3_1).f0) then (some false) else (spec_l07Grouts.l0 k1 l0 (wrap64 (x3_1 + 1)))) else (none)) else (none)) else (spec_l07Grouts.l0 k1 l0 (wrap64 (x3_1 + 1)))) = some r := by rw [if_pos rfl] at H; exact H
                  clear H
                  have H := H1
                  clear H1
                  by_cases c12 : x3_1 > 0
                  · rw [if_pos c12] at H
                    have c12b0 : decide (0 < x3_1) = true := decide_eq_true c12
                    clear c12
                    obtain ⟨ji13, hji13⟩ : ∃ j_ : Int, (wrap64 (x3_1 - 1)) = j_ := ⟨_, rfl⟩
                    replace H : (if 0 ≤ (ji13) then (if (ji13) < (l0.length : Int) then (if ((rd_T148 l0 (ji13)).f0) ≥ ((rd_T148 l0 x3_1).f0) then (some false) else (spec_l07Grouts.l0 k1 l0 (wrap64 (x3_1 + 1)))) else (none)) else (none)) = some r := by first | (rw [hji13] at H; exact H) | (simp only [hji13] at H ⊢; exact H)
                    (try rw [hji13] at A4)
                    (try rw [hji13] at A6)
                    (try rw [hji13] at A8)
                    (try rw [hji13] at A10)
                    have hji13w : (IntKind.i64.wrap (x3_1 - 1)) = ji13 := (i64_w _).trans hji13
                    by_cases c14 : 0 ≤ (ji13)
                    · rw [if_pos c14] at H
                      have c14b0 : decide (0 ≤ (ji13)) = true := decide_eq_true c14
                      clear c14
                      by_cases c15 : (ji13) < (l0.length : Int)
                      · rw [if_pos c15] at H
                        have c15b0 : decide ((ji13) < (l0.length : Int)) = true := decide_eq_true c15
                        clear c15
                        by_cases c16 : ((rd_T148 l0 (ji13)).f0) ≥ ((rd_T148 l0 x3_1).f0)
                        · rw [if_pos c16] at H
                          have c16b0 : decide (((rd_T148 l0 x3_1).f0) ≤ ((rd_T148 l0 (ji13)).f0)) = true := decide_eq_true c16
                          clear c16
                          obtain rfl := Option.some.inj H
                          have p853 : 0 ≤ (x3_1 : Int) := of_decide_eq_true (by first | (with_reducible assumption) | assumption)
                          have q853 : x3_1 < (l0.length : Int) := of_decide_eq_true (by first | (with_reducible assumption) | assumption)
                          obtain ⟨ad853, e853, hx853_0, hx853_1, hx853_2, hx853_3⟩ := at_T148 HR0.out x3_1 p853 q853
                          cases e853
                          replace hx853_0 := (HB.out.cell (World.block_lt_of_cell? w _ hx853_0)).trans hx853_0
                          replace hx853_1 := (HB.out.cell (World.block_lt_of_cell? w _ hx853_1)).trans hx853_1
                          replace hx853_2 := (HB.out.cell (World.block_lt_of_cell? w _ hx853_2)).trans hx853_2
                          replace hx853_3 := (HB.out.cell (World.block_lt_of_cell? w _ hx853_3)).trans hx853_3
                          replace p853 := eq_true p853
                          replace q853 := eq_true q853
                          go_wp2_with (first | ((with_reducible refine gate_dst (N := 4) rfl ?_); refine box_event ?hg (N := 4) ?hd (cs := #[.int .i64 0, .int .i64 0, .int .i64 0, .int .i64 0]) (t := 148) ?hr ?_; (case hd => rfl); (case hg => rfl); (case hr => first | (go_simp; done) | (go_simp; rfl)); intro gb854 hg w17 hbox hb; have n0_ := Aside0.mk (below_step (by repeat (first | (with_reducible first | exact HB.out | apply below_alloc | apply pw_below_drewN | apply below_drew1) | exact HB.out)) hb); have n1_ := Aside0.mk (hbox); have n2_ := Aside0.mk ((by rw [hg]; exact (below_size (by repeat (first | (with_reducible first | exact HB.out | apply below_alloc | apply pw_below_drewN | apply below_drew1) | exact HB.out))) : w.heap.size ≤ gb854)); have n3_ := Aside0.mk ((by rw [hg]; exact (below_size (by repeat (first | (with_reducible first | exact HB.out | apply below_alloc | apply pw_below_drewN | apply below_drew1) | exact HB.out))) : w.heap.size ≤ gb854)); clear HB; have HB := n0_; have BK854 := n1_; have GW854 := n2_; have GE854 := n3_; clear n0_ n1_ n2_ n3_; clear hb hbox hg; have hcz18_0 : w17.cell? ⟨gb854, 0, none⟩ = some (.int .i64 0) := (blk_cell BK854.out 0).trans rfl; have hcz18_1 : w17.cell? ⟨gb854, 1, none⟩ = some (.int .i64 0) := (blk_cell BK854.out 1).trans rfl; have hcz18_2 : w17.cell? ⟨gb854, 2, none⟩ = some (.int .i64 0) := (blk_cell BK854.out 2).trans rfl; have hcz18_3 : w17.cell? ⟨gb854, 3, none⟩ = some (.int .i64 0) := (blk_cell BK854.out 3).trans rfl; have hfz18_0 := blk_frozen BK854.out 0; have hfz18_1 := blk_frozen BK854.out 1; have hfz18_2 := blk_frozen BK854.out 2; have hfz18_3 := blk_frozen BK854.out 3) | (go_at_call 108; (with_reducible refine (spec_l00In.calls ((rd_T148 l0 x3_1).f0) 0 60 true _ A4.out).mono ?_); rintro e w' ⟨rfl, ⟨nd, rfl⟩⟩; (try first | exact ⟨rfl, _, World.drewN_drewN _ _ _⟩ | exact ⟨rfl, _, Eq.trans (World.drewN_drewN _ _ _) (congrArg (World.drewN _) (Nat.add_assoc _ _ _))⟩)) | (go_at_call 135; (with_reducible refine (spec_l07Litres.calls ((rd_T148 l0 x3_1).f1) true _ A6.out).mono ?_); rintro e w' ⟨rfl, ⟨nd, rfl⟩⟩; (try first | exact ⟨rfl, _, World.drewN_drewN _ _ _⟩ | exact ⟨rfl, _, Eq.trans (World.drewN_drewN _ _ _) (congrArg (World.drewN _) (Nat.add_assoc _ _ _))⟩)) | (go_at_call 135; (with_reducible refine (spec_l07Litres.calls ((rd_T148 l0 x3_1).f2) true _ A8.out).mono ?_); rintro e w' ⟨rfl, ⟨nd, rfl⟩⟩; (try first | exact ⟨rfl, _, World.drewN_drewN _ _ _⟩ | exact ⟨rfl, _, Eq.trans (World.drewN_drewN _ _ _) (congrArg (World.drewN _) (Nat.add_assoc _ _ _))⟩)) | (go_at_call 108; (with_reducible refine (spec_l00In.calls ((rd_T148 l0 x3_1).f3) 0 100 true _ A10.out).mono ?_); rintro e w' ⟨rfl, ⟨nd, rfl⟩⟩; (try first | exact ⟨rfl, _, World.drewN_drewN _ _ _⟩ | exact ⟨rfl, _, Eq.trans (World.drewN_drewN _ _ _) (congrArg (World.drewN _) (Nat.add_assoc _ _ _))⟩); have p859 : 0 ≤ ((ji13) : Int) := of_decide_eq_true (by first | (with_reducible assumption) | assumption); have q859 : (ji13) < (l0.length : Int) := of_decide_eq_true (by first | (with_reducible assumption) | assumption); obtain ⟨ad859, e859, hx859_0, hx859_1, hx859_2, hx859_3⟩ := at_T148 HR0.out (ji13) p859 q859; obtain rfl : ad853 = ad859 := (by injection e859); have hn859_0 : ad853.block ≠ gb854 := Nat.ne_of_lt (Nat.lt_of_lt_of_le (by have := World.block_lt_of_cell? _ _ hx859_0; first | rwa [add_block] at this | exact this) GW854.out); have hn859_1 : ad853.block ≠ gb854 := Nat.ne_of_lt (Nat.lt_of_lt_of_le (by have := World.block_lt_of_cell? _ _ hx859_0; first | rwa [add_block] at this | exact this) GW854.out); have hn859_2 : ad853.block ≠ gb854 := Nat.ne_of_lt (Nat.lt_of_lt_of_le (by have := World.block_lt_of_cell? _ _ hx859_0; first | rwa [add_block] at this | exact this) GW854.out); have hn859_3 : ad853.block ≠ gb854 := Nat.ne_of_lt (Nat.lt_of_lt_of_le (by have := World.block_lt_of_cell? _ _ hx859_0; first | rwa [add_block] at this | exact this) GW854.out); replace hx859_0 := (HB.out.cell (World.block_lt_of_cell? w _ hx859_0)).trans hx859_0; replace hx859_1 := (HB.out.cell (World.block_lt_of_cell? w _ hx859_1)).trans hx859_1; replace hx859_2 := (HB.out.cell (World.block_lt_of_cell? w _ hx859_2)).trans hx859_2; replace hx859_3 := (HB.out.cell (World.block_lt_of_cell? w _ hx859_3)).trans hx859_3; replace hx859_0 := (cell_far (p := ⟨gb854, 0, none⟩) (by first | (rw [add_block]; exact hn859_0) | (show (Addr.add _ _).block ≠ _; rw [add_block]; exact hn859_0) | exact hn859_0) (.int .i64 ((rd_T148 l0 x3_1).f0))).trans hx859_0; replace hx859_1 := (cell_far (p := ⟨gb854, 0, none⟩) (by first | (rw [add_block]; exact hn859_0) | (show (Addr.add _ _).block ≠ _; rw [add_block]; exact hn859_0) | exact hn859_0) (.int .i64 ((rd_T148 l0 x3_1).f0))).trans hx859_1; replace hx859_2 := (cell_far (p := ⟨gb854, 0, none⟩) (by first | (rw [add_block]; exact hn859_0) | (show (Addr.add _ _).block ≠ _; rw [add_block]; exact hn859_0) | exact hn859_0) (.int .i64 ((rd_T148 l0 x3_1).f0))).trans hx859_2; replace hx859_3 := (cell_far (p := ⟨gb854, 0, none⟩) (by first | (rw [add_block]; exact hn859_0) | (show (Addr.add _ _).block ≠ _; rw [add_block]; exact hn859_0) | exact hn859_0) (.int .i64 ((rd_T148 l0 x3_1).f0))).trans hx859_3; replace hx859_0 := (cell_far (p := ⟨gb854, 1, none⟩) (by first | (rw [add_block]; exact hn859_1) | (show (Addr.add _ _).block ≠ _; rw [add_block]; exact hn859_1) | exact hn859_1) (.int .i64 ((rd_T148 l0 x3_1).f1))).trans hx859_0; replace hx859_1 := (cell_far (p := ⟨gb854, 1, none⟩) (by first | (rw [add_block]; exact hn859_1) | (show (Addr.add _ _).block ≠ _; rw [add_block]; exact hn859_1) | exact hn859_1) (.int .i64 ((rd_T148 l0 x3_1).f1))).trans hx859_1; replace hx859_2 := (cell_far (p := ⟨gb854, 1, none⟩) (by first | (rw [add_block]; exact hn859_1) | (show (Addr.add _ _).block ≠ _; rw [add_block]; exact hn859_1) | exact hn859_1) (.int .i64 ((rd_T148 l0 x3_1).f1))).trans hx859_2; replace hx859_3 := (cell_far (p := ⟨gb854, 1, none⟩) (by first | (rw [add_block]; exact hn859_1) | (show (Addr.add _ _).block ≠ _; rw [add_block]; exact hn859_1) | exact hn859_1) (.int .i64 ((rd_T148 l0 x3_1).f1))).trans hx859_3; replace hx859_0 := (cell_far (p := ⟨gb854, 2, none⟩) (by first | (rw [add_block]; exact hn859_2) | (show (Addr.add _ _).block ≠ _; rw [add_block]; exact hn859_2) | exact hn859_2) (.int .i64 ((rd_T148 l0 x3_1).f2))).trans hx859_0; replace hx859_1 := (cell_far (p := ⟨gb854, 2, none⟩) (by first | (rw [add_block]; exact hn859_2) | (show (Addr.add _ _).block ≠ _; rw [add_block]; exact hn859_2) | exact hn859_2) (.int .i64 ((rd_T148 l0 x3_1).f2))).trans hx859_1; replace hx859_2 := (cell_far (p := ⟨gb854, 2, none⟩) (by first | (rw [add_block]; exact hn859_2) | (show (Addr.add _ _).block ≠ _; rw [add_block]; exact hn859_2) | exact hn859_2) (.int .i64 ((rd_T148 l0 x3_1).f2))).trans hx859_2; replace hx859_3 := (cell_far (p := ⟨gb854, 2, none⟩) (by first | (rw [add_block]; exact hn859_2) | (show (Addr.add _ _).block ≠ _; rw [add_block]; exact hn859_2) | exact hn859_2) (.int .i64 ((rd_T148 l0 x3_1).f2))).trans hx859_3; replace hx859_0 := (cell_far (p := ⟨gb854, 3, none⟩) (by first | (rw [add_block]; exact hn859_3) | (show (Addr.add _ _).block ≠ _; rw [add_block]; exact hn859_3) | exact hn859_3) (.int .i64 ((rd_T148 l0 x3_1).f3))).trans hx859_0; replace hx859_1 := (cell_far (p := ⟨gb854, 3, none⟩) (by first | (rw [add_block]; exact hn859_3) | (show (Addr.add _ _).block ≠ _; rw [add_block]; exact hn859_3) | exact hn859_3) (.int .i64 ((rd_T148 l0 x3_1).f3))).trans hx859_1; replace hx859_2 := (cell_far (p := ⟨gb854, 3, none⟩) (by first | (rw [add_block]; exact hn859_3) | (show (Addr.add _ _).block ≠ _; rw [add_block]; exact hn859_3) | exact hn859_3) (.int .i64 ((rd_T148 l0 x3_1).f3))).trans hx859_2; replace hx859_3 := (cell_far (p := ⟨gb854, 3, none⟩) (by first | (rw [add_block]; exact hn859_3) | (show (Addr.add _ _).block ≠ _; rw [add_block]; exact hn859_3) | exact hn859_3) (.int .i64 ((rd_T148 l0 x3_1).f3))).trans hx859_3; (try have hy859_0 := fun (n_ : Nat) => (show ((((((w17.drewN n_).setCell ⟨gb854, 0, none⟩ (.int .i64 ((rd_T148 l0 x3_1).f0))).setCell ⟨gb854, 1, none⟩ (.int .i64 ((rd_T148 l0 x3_1).f1))).setCell ⟨gb854, 2, none⟩ (.int .i64 ((rd_T148 l0 x3_1).f2))).setCell ⟨gb854, 3, none⟩ (.int .i64 ((rd_T148 l0 x3_1).f3)))).cell? _ = some _ from hx859_0)); (try have hy859_1 := fun (n_ : Nat) => (show ((((((w17.drewN n_).setCell ⟨gb854, 0, none⟩ (.int .i64 ((rd_T148 l0 x3_1).f0))).setCell ⟨gb854, 1, none⟩ (.int .i64 ((rd_T148 l0 x3_1).f1))).setCell ⟨gb854, 2, none⟩ (.int .i64 ((rd_T148 l0 x3_1).f2))).setCell ⟨gb854, 3, none⟩ (.int .i64 ((rd_T148 l0 x3_1).f3)))).cell? _ = some _ from hx859_1)); (try have hy859_2 := fun (n_ : Nat) => (show ((((((w17.drewN n_).setCell ⟨gb854, 0, none⟩ (.int .i64 ((rd_T148 l0 x3_1).f0))).setCell ⟨gb854, 1, none⟩ (.int .i64 ((rd_T148 l0 x3_1).f1))).setCell ⟨gb854, 2, none⟩ (.int .i64 ((rd_T148 l0 x3_1).f2))).setCell ⟨gb854, 3, none⟩ (.int .i64 ((rd_T148 l0 x3_1).f3)))).cell? _ = some _ from hx859_2)); (try have hy859_3 := fun (n_ : Nat) => (show ((((((w17.drewN n_).setCell ⟨gb854, 0, none⟩ (.int .i64 ((rd_T148 l0 x3_1).f0))).setCell ⟨gb854, 1, none⟩ (.int .i64 ((rd_T148 l0 x3_1).f1))).setCell ⟨gb854, 2, none⟩ (.int .i64 ((rd_T148 l0 x3_1).f2))).setCell ⟨gb854, 3, none⟩ (.int .i64 ((rd_T148 l0 x3_1).f3)))).cell? _ = some _ from hx859_3)); clear hn859_0; clear hn859_1; clear hn859_2; clear hn859_3; replace p859 := eq_true p859; replace q859 := eq_true q859))
                          repeat (go_quiet (first | ((with_reducible refine gate_dst (N := 4) rfl ?_); refine box_event ?hg (N := 4) ?hd (cs := #[.int .i64 0, .int .i64 0, .int .i64 0, .int .i64 0]) (t := 148) ?hr ?_; (case hd => rfl); (case hg => rfl); (case hr => first | (go_simp; done) | (go_simp; rfl)); intro gb854 hg w17 hbox hb; have n0_ := Aside0.mk (below_step (by repeat (first | (with_reducible first | exact HB.out | apply below_alloc | apply pw_below_drewN | apply below_drew1) | exact HB.out)) hb); have n1_ := Aside0.mk (hbox); have n2_ := Aside0.mk ((by rw [hg]; exact (below_size (by repeat (first | (with_reducible first | exact HB.out | apply below_alloc | apply pw_below_drewN | apply below_drew1) | exact HB.out))) : w.heap.size ≤ gb854)); have n3_ := Aside0.mk ((by rw [hg]; exact (below_size (by repeat (first | (with_reducible first | exact HB.out | apply below_alloc | apply pw_below_drewN | apply below_drew1) | exact HB.out))) : w.heap.size ≤ gb854)); clear HB; have HB := n0_; have BK854 := n1_; have GW854 := n2_; have GE854 := n3_; clear n0_ n1_ n2_ n3_; clear hb hbox hg; have hcz18_0 : w17.cell? ⟨gb854, 0, none⟩ = some (.int .i64 0) := (blk_cell BK854.out 0).trans rfl; have hcz18_1 : w17.cell? ⟨gb854, 1, none⟩ = some (.int .i64 0) := (blk_cell BK854.out 1).trans rfl; have hcz18_2 : w17.cell? ⟨gb854, 2, none⟩ = some (.int .i64 0) := (blk_cell BK854.out 2).trans rfl; have hcz18_3 : w17.cell? ⟨gb854, 3, none⟩ = some (.int .i64 0) := (blk_cell BK854.out 3).trans rfl; have hfz18_0 := blk_frozen BK854.out 0; have hfz18_1 := blk_frozen BK854.out 1; have hfz18_2 := blk_frozen BK854.out 2; have hfz18_3 := blk_frozen BK854.out 3) | (go_at_call 108; (with_reducible refine (spec_l00In.calls ((rd_T148 l0 x3_1).f0) 0 60 true _ A4.out).mono ?_); rintro e w' ⟨rfl, ⟨nd, rfl⟩⟩; (try first | exact ⟨rfl, _, World.drewN_drewN _ _ _⟩ | exact ⟨rfl, _, Eq.trans (World.drewN_drewN _ _ _) (congrArg (World.drewN _) (Nat.add_assoc _ _ _))⟩)) | (go_at_call 135; (with_reducible refine (spec_l07Litres.calls ((rd_T148 l0 x3_1).f1) true _ A6.out).mono ?_); rintro e w' ⟨rfl, ⟨nd, rfl⟩⟩; (try first | exact ⟨rfl, _, World.drewN_drewN _ _ _⟩ | exact ⟨rfl, _, Eq.trans (World.drewN_drewN _ _ _) (congrArg (World.drewN _) (Nat.add_assoc _ _ _))⟩)) | (go_at_call 135; (with_reducible refine (spec_l07Litres.calls ((rd_T148 l0 x3_1).f2) true _ A8.out).mono ?_); rintro e w' ⟨rfl, ⟨nd, rfl⟩⟩; (try first | exact ⟨rfl, _, World.drewN_drewN _ _ _⟩ | exact ⟨rfl, _, Eq.trans (World.drewN_drewN _ _ _) (congrArg (World.drewN _) (Nat.add_assoc _ _ _))⟩)) | (go_at_call 108; (with_reducible refine (spec_l00In.calls ((rd_T148 l0 x3_1).f3) 0 100 true _ A10.out).mono ?_); rintro e w' ⟨rfl, ⟨nd, rfl⟩⟩; (try first | exact ⟨rfl, _, World.drewN_drewN _ _ _⟩ | exact ⟨rfl, _, Eq.trans (World.drewN_drewN _ _ _) (congrArg (World.drewN _) (Nat.add_assoc _ _ _))⟩); have p859 : 0 ≤ ((ji13) : Int) := of_decide_eq_true (by first | (with_reducible assumption) | assumption); have q859 : (ji13) < (l0.length : Int) := of_decide_eq_true (by first | (with_reducible assumption) | assumption); obtain ⟨ad859, e859, hx859_0, hx859_1, hx859_2, hx859_3⟩ := at_T148 HR0.out (ji13) p859 q859; obtain rfl : ad853 = ad859 := (by injection e859); have hn859_0 : ad853.block ≠ gb854 := Nat.ne_of_lt (Nat.lt_of_lt_of_le (by have := World.block_lt_of_cell? _ _ hx859_0; first | rwa [add_block] at this | exact this) GW854.out); have hn859_1 : ad853.block ≠ gb854 := Nat.ne_of_lt (Nat.lt_of_lt_of_le (by have := World.block_lt_of_cell? _ _ hx859_0; first | rwa [add_block] at this | exact this) GW854.out); have hn859_2 : ad853.block ≠ gb854 := Nat.ne_of_lt (Nat.lt_of_lt_of_le (by have := World.block_lt_of_cell? _ _ hx859_0; first | rwa [add_block] at this | exact this) GW854.out); have hn859_3 : ad853.block ≠ gb854 := Nat.ne_of_lt (Nat.lt_of_lt_of_le (by have := World.block_lt_of_cell? _ _ hx859_0; first | rwa [add_block] at this | exact this) GW854.out); replace hx859_0 := (HB.out.cell (World.block_lt_of_cell? w _ hx859_0)).trans hx859_0; replace hx859_1 := (HB.out.cell (World.block_lt_of_cell? w _ hx859_1)).trans hx859_1; replace hx859_2 := (HB.out.cell (World.block_lt_of_cell? w _ hx859_2)).trans hx859_2; replace hx859_3 := (HB.out.cell (World.block_lt_of_cell? w _ hx859_3)).trans hx859_3; replace hx859_0 := (cell_far (p := ⟨gb854, 0, none⟩) (by first | (rw [add_block]; exact hn859_0) | (show (Addr.add _ _).block ≠ _; rw [add_block]; exact hn859_0) | exact hn859_0) (.int .i64 ((rd_T148 l0 x3_1).f0))).trans hx859_0; replace hx859_1 := (cell_far (p := ⟨gb854, 0, none⟩) (by first | (rw [add_block]; exact hn859_0) | (show (Addr.add _ _).block ≠ _; rw [add_block]; exact hn859_0) | exact hn859_0) (.int .i64 ((rd_T148 l0 x3_1).f0))).trans hx859_1; replace hx859_2 := (cell_far (p := ⟨gb854, 0, none⟩) (by first | (rw [add_block]; exact hn859_0) | (show (Addr.add _ _).block ≠ _; rw [add_block]; exact hn859_0) | exact hn859_0) (.int .i64 ((rd_T148 l0 x3_1).f0))).trans hx859_2; replace hx859_3 := (cell_far (p := ⟨gb854, 0, none⟩) (by first | (rw [add_block]; exact hn859_0) | (show (Addr.add _ _).block ≠ _; rw [add_block]; exact hn859_0) | exact hn859_0) (.int .i64 ((rd_T148 l0 x3_1).f0))).trans hx859_3; replace hx859_0 := (cell_far (p := ⟨gb854, 1, none⟩) (by first | (rw [add_block]; exact hn859_1) | (show (Addr.add _ _).block ≠ _; rw [add_block]; exact hn859_1) | exact hn859_1) (.int .i64 ((rd_T148 l0 x3_1).f1))).trans hx859_0; replace hx859_1 := (cell_far (p := ⟨gb854, 1, none⟩) (by first | (rw [add_block]; exact hn859_1) | (show (Addr.add _ _).block ≠ _; rw [add_block]; exact hn859_1) | exact hn859_1) (.int .i64 ((rd_T148 l0 x3_1).f1))).trans hx859_1; replace hx859_2 := (cell_far (p := ⟨gb854, 1, none⟩) (by first | (rw [add_block]; exact hn859_1) | (show (Addr.add _ _).block ≠ _; rw [add_block]; exact hn859_1) | exact hn859_1) (.int .i64 ((rd_T148 l0 x3_1).f1))).trans hx859_2; replace hx859_3 := (cell_far (p := ⟨gb854, 1, none⟩) (by first | (rw [add_block]; exact hn859_1) | (show (Addr.add _ _).block ≠ _; rw [add_block]; exact hn859_1) | exact hn859_1) (.int .i64 ((rd_T148 l0 x3_1).f1))).trans hx859_3; replace hx859_0 := (cell_far (p := ⟨gb854, 2, none⟩) (by first | (rw [add_block]; exact hn859_2) | (show (Addr.add _ _).block ≠ _; rw [add_block]; exact hn859_2) | exact hn859_2) (.int .i64 ((rd_T148 l0 x3_1).f2))).trans hx859_0; replace hx859_1 := (cell_far (p := ⟨gb854, 2, none⟩) (by first | (rw [add_block]; exact hn859_2) | (show (Addr.add _ _).block ≠ _; rw [add_block]; exact hn859_2) | exact hn859_2) (.int .i64 ((rd_T148 l0 x3_1).f2))).trans hx859_1; replace hx859_2 := (cell_far (p := ⟨gb854, 2, none⟩) (by first | (rw [add_block]; exact hn859_2) | (show (Addr.add _ _).block ≠ _; rw [add_block]; exact hn859_2) | exact hn859_2) (.int .i64 ((rd_T148 l0 x3_1).f2))).trans hx859_2; replace hx859_3 := (cell_far (p := ⟨gb854, 2, none⟩) (by first | (rw [add_block]; exact hn859_2) | (show (Addr.add _ _).block ≠ _; rw [add_block]; exact hn859_2) | exact hn859_2) (.int .i64 ((rd_T148 l0 x3_1).f2))).trans hx859_3; replace hx859_0 := (cell_far (p := ⟨gb854, 3, none⟩) (by first | (rw [add_block]; exact hn859_3) | (show (Addr.add _ _).block ≠ _; rw [add_block]; exact hn859_3) | exact hn859_3) (.int .i64 ((rd_T148 l0 x3_1).f3))).trans hx859_0; replace hx859_1 := (cell_far (p := ⟨gb854, 3, none⟩) (by first | (rw [add_block]; exact hn859_3) | (show (Addr.add _ _).block ≠ _; rw [add_block]; exact hn859_3) | exact hn859_3) (.int .i64 ((rd_T148 l0 x3_1).f3))).trans hx859_1; replace hx859_2 := (cell_far (p := ⟨gb854, 3, none⟩) (by first | (rw [add_block]; exact hn859_3) | (show (Addr.add _ _).block ≠ _; rw [add_block]; exact hn859_3) | exact hn859_3) (.int .i64 ((rd_T148 l0 x3_1).f3))).trans hx859_2; replace hx859_3 := (cell_far (p := ⟨gb854, 3, none⟩) (by first | (rw [add_block]; exact hn859_3) | (show (Addr.add _ _).block ≠ _; rw [add_block]; exact hn859_3) | exact hn859_3) (.int .i64 ((rd_T148 l0 x3_1).f3))).trans hx859_3; (try have hy859_0 := fun (n_ : Nat) => (show ((((((w17.drewN n_).setCell ⟨gb854, 0, none⟩ (.int .i64 ((rd_T148 l0 x3_1).f0))).setCell ⟨gb854, 1, none⟩ (.int .i64 ((rd_T148 l0 x3_1).f1))).setCell ⟨gb854, 2, none⟩ (.int .i64 ((rd_T148 l0 x3_1).f2))).setCell ⟨gb854, 3, none⟩ (.int .i64 ((rd_T148 l0 x3_1).f3)))).cell? _ = some _ from hx859_0)); (try have hy859_1 := fun (n_ : Nat) => (show ((((((w17.drewN n_).setCell ⟨gb854, 0, none⟩ (.int .i64 ((rd_T148 l0 x3_1).f0))).setCell ⟨gb854, 1, none⟩ (.int .i64 ((rd_T148 l0 x3_1).f1))).setCell ⟨gb854, 2, none⟩ (.int .i64 ((rd_T148 l0 x3_1).f2))).setCell ⟨gb854, 3, none⟩ (.int .i64 ((rd_T148 l0 x3_1).f3)))).cell? _ = some _ from hx859_1)); (try have hy859_2 := fun (n_ : Nat) => (show ((((((w17.drewN n_).setCell ⟨gb854, 0, none⟩ (.int .i64 ((rd_T148 l0 x3_1).f0))).setCell ⟨gb854, 1, none⟩ (.int .i64 ((rd_T148 l0 x3_1).f1))).setCell ⟨gb854, 2, none⟩ (.int .i64 ((rd_T148 l0 x3_1).f2))).setCell ⟨gb854, 3, none⟩ (.int .i64 ((rd_T148 l0 x3_1).f3)))).cell? _ = some _ from hx859_2)); (try have hy859_3 := fun (n_ : Nat) => (show ((((((w17.drewN n_).setCell ⟨gb854, 0, none⟩ (.int .i64 ((rd_T148 l0 x3_1).f0))).setCell ⟨gb854, 1, none⟩ (.int .i64 ((rd_T148 l0 x3_1).f1))).setCell ⟨gb854, 2, none⟩ (.int .i64 ((rd_T148 l0 x3_1).f2))).setCell ⟨gb854, 3, none⟩ (.int .i64 ((rd_T148 l0 x3_1).f3)))).cell? _ = some _ from hx859_3)); clear hn859_0; clear hn859_1; clear hn859_2; clear hn859_3; replace p859 := eq_true p859; replace q859 := eq_true q859)); try go_wp2_with (first | ((with_reducible refine gate_dst (N := 4) rfl ?_); refine box_event ?hg (N := 4) ?hd (cs := #[.int .i64 0, .int .i64 0, .int .i64 0, .int .i64 0]) (t := 148) ?hr ?_; (case hd => rfl); (case hg => rfl); (case hr => first | (go_simp; done) | (go_simp; rfl)); intro gb854 hg w17 hbox hb; have n0_ := Aside0.mk (below_step (by repeat (first | (with_reducible first | exact HB.out | apply below_alloc | apply pw_below_drewN | apply below_drew1) | exact HB.out)) hb); have n1_ := Aside0.mk (hbox); have n2_ := Aside0.mk ((by rw [hg]; exact (below_size (by repeat (first | (with_reducible first | exact HB.out | apply below_alloc | apply pw_below_drewN | apply below_drew1) | exact HB.out))) : w.heap.size ≤ gb854)); have n3_ := Aside0.mk ((by rw [hg]; exact (below_size (by repeat (first | (with_reducible first | exact HB.out | apply below_alloc | apply pw_below_drewN | apply below_drew1) | exact HB.out))) : w.heap.size ≤ gb854)); clear HB; have HB := n0_; have BK854 := n1_; have GW854 := n2_; have GE854 := n3_; clear n0_ n1_ n2_ n3_; clear hb hbox hg; have hcz18_0 : w17.cell? ⟨gb854, 0, none⟩ = some (.int .i64 0) := (blk_cell BK854.out 0).trans rfl; have hcz18_1 : w17.cell? ⟨gb854, 1, none⟩ = some (.int .i64 0) := (blk_cell BK854.out 1).trans rfl; have hcz18_2 : w17.cell? ⟨gb854, 2, none⟩ = some (.int .i64 0) := (blk_cell BK854.out 2).trans rfl; have hcz18_3 : w17.cell? ⟨gb854, 3, none⟩ = some (.int .i64 0) := (blk_cell BK854.out 3).trans rfl; have hfz18_0 := blk_frozen BK854.out 0; have hfz18_1 := blk_frozen BK854.out 1; have hfz18_2 := blk_frozen BK854.out 2; have hfz18_3 := blk_frozen BK854.out 3) | (go_at_call 108; (with_reducible refine (spec_l00In.calls ((rd_T148 l0 x3_1).f0) 0 60 true _ A4.out).mono ?_); rintro e w' ⟨rfl, ⟨nd, rfl⟩⟩; (try first | exact ⟨rfl, _, World.drewN_drewN _ _ _⟩ | exact ⟨rfl, _, Eq.trans (World.drewN_drewN _ _ _) (congrArg (World.drewN _) (Nat.add_assoc _ _ _))⟩)) | (go_at_call 135; (with_reducible refine (spec_l07Litres.calls ((rd_T148 l0 x3_1).f1) true _ A6.out).mono ?_); rintro e w' ⟨rfl, ⟨nd, rfl⟩⟩; (try first | exact ⟨rfl, _, World.drewN_drewN _ _ _⟩ | exact ⟨rfl, _, Eq.trans (World.drewN_drewN _ _ _) (congrArg (World.drewN _) (Nat.add_assoc _ _ _))⟩)) | (go_at_call 135; (with_reducible refine (spec_l07Litres.calls ((rd_T148 l0 x3_1).f2) true _ A8.out).mono ?_); rintro e w' ⟨rfl, ⟨nd, rfl⟩⟩; (try first | exact ⟨rfl, _, World.drewN_drewN _ _ _⟩ | exact ⟨rfl, _, Eq.trans (World.drewN_drewN _ _ _) (congrArg (World.drewN _) (Nat.add_assoc _ _ _))⟩)) | (go_at_call 108; (with_reducible refine (spec_l00In.calls ((rd_T148 l0 x3_1).f3) 0 100 true _ A10.out).mono ?_); rintro e w' ⟨rfl, ⟨nd, rfl⟩⟩; (try first | exact ⟨rfl, _, World.drewN_drewN _ _ _⟩ | exact ⟨rfl, _, Eq.trans (World.drewN_drewN _ _ _) (congrArg (World.drewN _) (Nat.add_assoc _ _ _))⟩); have p859 : 0 ≤ ((ji13) : Int) := of_decide_eq_true (by first | (with_reducible assumption) | assumption); have q859 : (ji13) < (l0.length : Int) := of_decide_eq_true (by first | (with_reducible assumption) | assumption); obtain ⟨ad859, e859, hx859_0, hx859_1, hx859_2, hx859_3⟩ := at_T148 HR0.out (ji13) p859 q859; obtain rfl : ad853 = ad859 := (by injection e859); have hn859_0 : ad853.block ≠ gb854 := Nat.ne_of_lt (Nat.lt_of_lt_of_le (by have := World.block_lt_of_cell? _ _ hx859_0; first | rwa [add_block] at this | exact this) GW854.out); have hn859_1 : ad853.block ≠ gb854 := Nat.ne_of_lt (Nat.lt_of_lt_of_le (by have := World.block_lt_of_cell? _ _ hx859_0; first | rwa [add_block] at this | exact this) GW854.out); have hn859_2 : ad853.block ≠ gb854 := Nat.ne_of_lt (Nat.lt_of_lt_of_le (by have := World.block_lt_of_cell? _ _ hx859_0; first | rwa [add_block] at this | exact this) GW854.out); have hn859_3 : ad853.block ≠ gb854 := Nat.ne_of_lt (Nat.lt_of_lt_of_le (by have := World.block_lt_of_cell? _ _ hx859_0; first | rwa [add_block] at this | exact this) GW854.out); replace hx859_0 := (HB.out.cell (World.block_lt_of_cell? w _ hx859_0)).trans hx859_0; replace hx859_1 := (HB.out.cell (World.block_lt_of_cell? w _ hx859_1)).trans hx859_1; replace hx859_2 := (HB.out.cell (World.block_lt_of_cell? w _ hx859_2)).trans hx859_2; replace hx859_3 := (HB.out.cell (World.block_lt_of_cell? w _ hx859_3)).trans hx859_3; replace hx859_0 := (cell_far (p := ⟨gb854, 0, none⟩) (by first | (rw [add_block]; exact hn859_0) | (show (Addr.add _ _).block ≠ _; rw [add_block]; exact hn859_0) | exact hn859_0) (.int .i64 ((rd_T148 l0 x3_1).f0))).trans hx859_0; replace hx859_1 := (cell_far (p := ⟨gb854, 0, none⟩) (by first | (rw [add_block]; exact hn859_0) | (show (Addr.add _ _).block ≠ _; rw [add_block]; exact hn859_0) | exact hn859_0) (.int .i64 ((rd_T148 l0 x3_1).f0))).trans hx859_1; replace hx859_2 := (cell_far (p := ⟨gb854, 0, none⟩) (by first | (rw [add_block]; exact hn859_0) | (show (Addr.add _ _).block ≠ _; rw [add_block]; exact hn859_0) | exact hn859_0) (.int .i64 ((rd_T148 l0 x3_1).f0))).trans hx859_2; replace hx859_3 := (cell_far (p := ⟨gb854, 0, none⟩) (by first | (rw [add_block]; exact hn859_0) | (show (Addr.add _ _).block ≠ _; rw [add_block]; exact hn859_0) | exact hn859_0) (.int .i64 ((rd_T148 l0 x3_1).f0))).trans hx859_3; replace hx859_0 := (cell_far (p := ⟨gb854, 1, none⟩) (by first | (rw [add_block]; exact hn859_1) | (show (Addr.add _ _).block ≠ _; rw [add_block]; exact hn859_1) | exact hn859_1) (.int .i64 ((rd_T148 l0 x3_1).f1))).trans hx859_0; replace hx859_1 := (cell_far (p := ⟨gb854, 1, none⟩) (by first | (rw [add_block]; exact hn859_1) | (show (Addr.add _ _).block ≠ _; rw [add_block]; exact hn859_1) | exact hn859_1) (.int .i64 ((rd_T148 l0 x3_1).f1))).trans hx859_1; replace hx859_2 := (cell_far (p := ⟨gb854, 1, none⟩) (by first | (rw [add_block]; exact hn859_1) | (show (Addr.add _ _).block ≠ _; rw [add_block]; exact hn859_1) | exact hn859_1) (.int .i64 ((rd_T148 l0 x3_1).f1))).trans hx859_2; replace hx859_3 := (cell_far (p := ⟨gb854, 1, none⟩) (by first | (rw [add_block]; exact hn859_1) | (show (Addr.add _ _).block ≠ _; rw [add_block]; exact hn859_1) | exact hn859_1) (.int .i64 ((rd_T148 l0 x3_1).f1))).trans hx859_3; replace hx859_0 := (cell_far (p := ⟨gb854, 2, none⟩) (by first | (rw [add_block]; exact hn859_2) | (show (Addr.add _ _).block ≠ _; rw [add_block]; exact hn859_2) | exact hn859_2) (.int .i64 ((rd_T148 l0 x3_1).f2))).trans hx859_0; replace hx859_1 := (cell_far (p := ⟨gb854, 2, none⟩) (by first | (rw [add_block]; exact hn859_2) | (show (Addr.add _ _).block ≠ _; rw [add_block]; exact hn859_2) | exact hn859_2) (.int .i64 ((rd_T148 l0 x3_1).f2))).trans hx859_1; replace hx859_2 := (cell_far (p := ⟨gb854, 2, none⟩) (by first | (rw [add_block]; exact hn859_2) | (show (Addr.add _ _).block ≠ _; rw [add_block]; exact hn859_2) | exact hn859_2) (.int .i64 ((rd_T148 l0 x3_1).f2))).trans hx859_2; replace hx859_3 := (cell_far (p := ⟨gb854, 2, none⟩) (by first | (rw [add_block]; exact hn859_2) | (show (Addr.add _ _).block ≠ _; rw [add_block]; exact hn859_2) | exact hn859_2) (.int .i64 ((rd_T148 l0 x3_1).f2))).trans hx859_3; replace hx859_0 := (cell_far (p := ⟨gb854, 3, none⟩) (by first | (rw [add_block]; exact hn859_3) | (show (Addr.add _ _).block ≠ _; rw [add_block]; exact hn859_3) | exact hn859_3) (.int .i64 ((rd_T148 l0 x3_1).f3))).trans hx859_0; replace hx859_1 := (cell_far (p := ⟨gb854, 3, none⟩) (by first | (rw [add_block]; exact hn859_3) | (show (Addr.add _ _).block ≠ _; rw [add_block]; exact hn859_3) | exact hn859_3) (.int .i64 ((rd_T148 l0 x3_1).f3))).trans hx859_1; replace hx859_2 := (cell_far (p := ⟨gb854, 3, none⟩) (by first | (rw [add_block]; exact hn859_3) | (show (Addr.add _ _).block ≠ _; rw [add_block]; exact hn859_3) | exact hn859_3) (.int .i64 ((rd_T148 l0 x3_1).f3))).trans hx859_2; replace hx859_3 := (cell_far (p := ⟨gb854, 3, none⟩) (by first | (rw [add_block]; exact hn859_3) | (show (Addr.add _ _).block ≠ _; rw [add_block]; exact hn859_3) | exact hn859_3) (.int .i64 ((rd_T148 l0 x3_1).f3))).trans hx859_3; (try have hy859_0 := fun (n_ : Nat) => (show ((((((w17.drewN n_).setCell ⟨gb854, 0, none⟩ (.int .i64 ((rd_T148 l0 x3_1).f0))).setCell ⟨gb854, 1, none⟩ (.int .i64 ((rd_T148 l0 x3_1).f1))).setCell ⟨gb854, 2, none⟩ (.int .i64 ((rd_T148 l0 x3_1).f2))).setCell ⟨gb854, 3, none⟩ (.int .i64 ((rd_T148 l0 x3_1).f3)))).cell? _ = some _ from hx859_0)); (try have hy859_1 := fun (n_ : Nat) => (show ((((((w17.drewN n_).setCell ⟨gb854, 0, none⟩ (.int .i64 ((rd_T148 l0 x3_1).f0))).setCell ⟨gb854, 1, none⟩ (.int .i64 ((rd_T148 l0 x3_1).f1))).setCell ⟨gb854, 2, none⟩ (.int .i64 ((rd_T148 l0 x3_1).f2))).setCell ⟨gb854, 3, none⟩ (.int .i64 ((rd_T148 l0 x3_1).f3)))).cell? _ = some _ from hx859_1)); (try have hy859_2 := fun (n_ : Nat) => (show ((((((w17.drewN n_).setCell ⟨gb854, 0, none⟩ (.int .i64 ((rd_T148 l0 x3_1).f0))).setCell ⟨gb854, 1, none⟩ (.int .i64 ((rd_T148 l0 x3_1).f1))).setCell ⟨gb854, 2, none⟩ (.int .i64 ((rd_T148 l0 x3_1).f2))).setCell ⟨gb854, 3, none⟩ (.int .i64 ((rd_T148 l0 x3_1).f3)))).cell? _ = some _ from hx859_2)); (try have hy859_3 := fun (n_ : Nat) => (show ((((((w17.drewN n_).setCell ⟨gb854, 0, none⟩ (.int .i64 ((rd_T148 l0 x3_1).f0))).setCell ⟨gb854, 1, none⟩ (.int .i64 ((rd_T148 l0 x3_1).f1))).setCell ⟨gb854, 2, none⟩ (.int .i64 ((rd_T148 l0 x3_1).f2))).setCell ⟨gb854, 3, none⟩ (.int .i64 ((rd_T148 l0 x3_1).f3)))).cell? _ = some _ from hx859_3)); clear hn859_0; clear hn859_1; clear hn859_2; clear hn859_3; replace p859 := eq_true p859; replace q859 := eq_true q859)))
                          go_ret
                          exact ⟨by first | rfl | (simp [errW_none, errW_some] <;> rfl) | (simp only [← hji13]; first | rfl | (simp [errW_none, errW_some] <;> rfl)) | (simp [*, errW_none, errW_some] <;> rfl) | (simp [Int.tdiv_eq_ediv_of_nonneg, *]; done), by repeat (first | (with_reducible first | exact HB.out | apply below_alloc | apply pw_below_drewN | apply below_drew1 | refine below_set ?_ GE854.out) | exact HB.out)⟩
                        · rw [if_neg c16] at H
                          have c16b0 : decide (((rd_T148 l0 x3_1).f0) ≤ ((rd_T148 l0 (ji13)).f0)) = false := decide_eq_false c16
                          clear c16
                          have H' := Aside0.mk H
                          clear H
                          have p853 : 0 ≤ (x3_1 : Int) := of_decide_eq_true (by first | (with_reducible assumption) | assumption)
                          have q853 : x3_1 < (l0.length : Int) := of_decide_eq_true (by first | (with_reducible assumption) | assumption)
                          obtain ⟨ad853, e853, hx853_0, hx853_1, hx853_2, hx853_3⟩ := at_T148 HR0.out x3_1 p853 q853
                          cases e853
                          replace hx853_0 := (HB.out.cell (World.block_lt_of_cell? w _ hx853_0)).trans hx853_0
                          replace hx853_1 := (HB.out.cell (World.block_lt_of_cell? w _ hx853_1)).trans hx853_1
                          replace hx853_2 := (HB.out.cell (World.block_lt_of_cell? w _ hx853_2)).trans hx853_2
                          replace hx853_3 := (HB.out.cell (World.block_lt_of_cell? w _ hx853_3)).trans hx853_3
                          replace p853 := eq_true p853
                          replace q853 := eq_true q853
                          go_wp2_with (first | ((with_reducible refine gate_dst (N := 4) rfl ?_); refine box_event ?hg (N := 4) ?hd (cs := #[.int .i64 0, .int .i64 0, .int .i64 0, .int .i64 0]) (t := 148) ?hr ?_; (case hd => rfl); (case hg => rfl); (case hr => first | (go_simp; done) | (go_simp; rfl)); intro gb854 hg w19 hbox hb; have n0_ := Aside0.mk (below_step (by repeat (first | (with_reducible first | exact HB.out | apply below_alloc | apply pw_below_drewN | apply below_drew1) | exact HB.out)) hb); have n1_ := Aside0.mk (hbox); have n2_ := Aside0.mk ((by rw [hg]; exact (below_size (by repeat (first | (with_reducible first | exact HB.out | apply below_alloc | apply pw_below_drewN | apply below_drew1) | exact HB.out))) : w.heap.size ≤ gb854)); have n3_ := Aside0.mk ((by rw [hg]; exact (below_size (by repeat (first | (with_reducible first | exact HB.out | apply below_alloc | apply pw_below_drewN | apply below_drew1) | exact HB.out))) : w.heap.size ≤ gb854)); clear HB; have HB := n0_; have BK854 := n1_; have GW854 := n2_; have GE854 := n3_; clear n0_ n1_ n2_ n3_; clear hb hbox hg; have hcz20_0 : w19.cell? ⟨gb854, 0, none⟩ = some (.int .i64 0) := (blk_cell BK854.out 0).trans rfl; have hcz20_1 : w19.cell? ⟨gb854, 1, none⟩ = some (.int .i64 0) := (blk_cell BK854.out 1).trans rfl; have hcz20_2 : w19.cell? ⟨gb854, 2, none⟩ = some (.int .i64 0) := (blk_cell BK854.out 2).trans rfl; have hcz20_3 : w19.cell? ⟨gb854, 3, none⟩ = some (.int .i64 0) := (blk_cell BK854.out 3).trans rfl; have hfz20_0 := blk_frozen BK854.out 0; have hfz20_1 := blk_frozen BK854.out 1; have hfz20_2 := blk_frozen BK854.out 2; have hfz20_3 := blk_frozen BK854.out 3) | (go_at_call 108; (with_reducible refine (spec_l00In.calls ((rd_T148 l0 x3_1).f0) 0 60 true _ A4.out).mono ?_); rintro e w' ⟨rfl, ⟨nd, rfl⟩⟩; (try first | exact ⟨rfl, _, World.drewN_drewN _ _ _⟩ | exact ⟨rfl, _, Eq.trans (World.drewN_drewN _ _ _) (congrArg (World.drewN _) (Nat.add_assoc _ _ _))⟩)) | (go_at_call 135; (with_reducible refine (spec_l07Litres.calls ((rd_T148 l0 x3_1).f1) true _ A6.out).mono ?_); rintro e w' ⟨rfl, ⟨nd, rfl⟩⟩; (try first | exact ⟨rfl, _, World.drewN_drewN _ _ _⟩ | exact ⟨rfl, _, Eq.trans (World.drewN_drewN _ _ _) (congrArg (World.drewN _) (Nat.add_assoc _ _ _))⟩)) | (go_at_call 135; (with_reducible refine (spec_l07Litres.calls ((rd_T148 l0 x3_1).f2) true _ A8.out).mono ?_); rintro e w' ⟨rfl, ⟨nd, rfl⟩⟩; (try first | exact ⟨rfl, _, World.drewN_drewN _ _ _⟩ | exact ⟨rfl, _, Eq.trans (World.drewN_drewN _ _ _) (congrArg (World.drewN _) (Nat.add_assoc _ _ _))⟩)) | (go_at_call 108; (with_reducible refine (spec_l00In.calls ((rd_T148 l0 x3_1).f3) 0 100 true _ A10.out).mono ?_); rintro e w' ⟨rfl, ⟨nd, rfl⟩⟩; (try first | exact ⟨rfl, _, World.drewN_drewN _ _ _⟩ | exact ⟨rfl, _, Eq.trans (World.drewN_drewN _ _ _) (congrArg (World.drewN _) (Nat.add_assoc _ _ _))⟩); have p859 : 0 ≤ ((ji13) : Int) := of_decide_eq_true (by first | (with_reducible assumption) | assumption); have q859 : (ji13) < (l0.length : Int) := of_decide_eq_true (by first | (with_reducible assumption) | assumption); obtain ⟨ad859, e859, hx859_0, hx859_1, hx859_2, hx859_3⟩ := at_T148 HR0.out (ji13) p859 q859; obtain rfl : ad853 = ad859 := (by injection e859); have hn859_0 : ad853.block ≠ gb854 := Nat.ne_of_lt (Nat.lt_of_lt_of_le (by have := World.block_lt_of_cell? _ _ hx859_0; first | rwa [add_block] at this | exact this) GW854.out); have hn859_1 : ad853.block ≠ gb854 := Nat.ne_of_lt (Nat.lt_of_lt_of_le (by have := World.block_lt_of_cell? _ _ hx859_0; first | rwa [add_block] at this | exact this) GW854.out); have hn859_2 : ad853.block ≠ gb854 := Nat.ne_of_lt (Nat.lt_of_lt_of_le (by have := World.block_lt_of_cell? _ _ hx859_0; first | rwa [add_block] at this | exact this) GW854.out); have hn859_3 : ad853.block ≠ gb854 := Nat.ne_of_lt (Nat.lt_of_lt_of_le (by have := World.block_lt_of_cell? _ _ hx859_0; first | rwa [add_block] at this | exact this) GW854.out); replace hx859_0 := (HB.out.cell (World.block_lt_of_cell? w _ hx859_0)).trans hx859_0; replace hx859_1 := (HB.out.cell (World.block_lt_of_cell? w _ hx859_1)).trans hx859_1; replace hx859_2 := (HB.out.cell (World.block_lt_of_cell? w _ hx859_2)).trans hx859_2; replace hx859_3 := (HB.out.cell (World.block_lt_of_cell? w _ hx859_3)).trans hx859_3; replace hx859_0 := (cell_far (p := ⟨gb854, 0, none⟩) (by first | (rw [add_block]; exact hn859_0) | (show (Addr.add _ _).block ≠ _; rw [add_block]; exact hn859_0) | exact hn859_0) (.int .i64 ((rd_T148 l0 x3_1).f0))).trans hx859_0; replace hx859_1 := (cell_far (p := ⟨gb854, 0, none⟩) (by first | (rw [add_block]; exact hn859_0) | (show (Addr.add _ _).block ≠ _; rw [add_block]; exact hn859_0) | exact hn859_0) (.int .i64 ((rd_T148 l0 x3_1).f0))).trans hx859_1; replace hx859_2 := (cell_far (p := ⟨gb854, 0, none⟩) (by first | (rw [add_block]; exact hn859_0) | (show (Addr.add _ _).block ≠ _; rw [add_block]; exact hn859_0) | exact hn859_0) (.int .i64 ((rd_T148 l0 x3_1).f0))).trans hx859_2; replace hx859_3 := (cell_far (p := ⟨gb854, 0, none⟩) (by first | (rw [add_block]; exact hn859_0) | (show (Addr.add _ _).block ≠ _; rw [add_block]; exact hn859_0) | exact hn859_0) (.int .i64 ((rd_T148 l0 x3_1).f0))).trans hx859_3; replace hx859_0 := (cell_far (p := ⟨gb854, 1, none⟩) (by first | (rw [add_block]; exact hn859_1) | (show (Addr.add _ _).block ≠ _; rw [add_block]; exact hn859_1) | exact hn859_1) (.int .i64 ((rd_T148 l0 x3_1).f1))).trans hx859_0; replace hx859_1 := (cell_far (p := ⟨gb854, 1, none⟩) (by first | (rw [add_block]; exact hn859_1) | (show (Addr.add _ _).block ≠ _; rw [add_block]; exact hn859_1) | exact hn859_1) (.int .i64 ((rd_T148 l0 x3_1).f1))).trans hx859_1; replace hx859_2 := (cell_far (p := ⟨gb854, 1, none⟩) (by first | (rw [add_block]; exact hn859_1) | (show (Addr.add _ _).block ≠ _; rw [add_block]; exact hn859_1) | exact hn859_1) (.int .i64 ((rd_T148 l0 x3_1).f1))).trans hx859_2; replace hx859_3 := (cell_far (p := ⟨gb854, 1, none⟩) (by first | (rw [add_block]; exact hn859_1) | (show (Addr.add _ _).block ≠ _; rw [add_block]; exact hn859_1) | exact hn859_1) (.int .i64 ((rd_T148 l0 x3_1).f1))).trans hx859_3; replace hx859_0 := (cell_far (p := ⟨gb854, 2, none⟩) (by first | (rw [add_block]; exact hn859_2) | (show (Addr.add _ _).block ≠ _; rw [add_block]; exact hn859_2) | exact hn859_2) (.int .i64 ((rd_T148 l0 x3_1).f2))).trans hx859_0; replace hx859_1 := (cell_far (p := ⟨gb854, 2, none⟩) (by first | (rw [add_block]; exact hn859_2) | (show (Addr.add _ _).block ≠ _; rw [add_block]; exact hn859_2) | exact hn859_2) (.int .i64 ((rd_T148 l0 x3_1).f2))).trans hx859_1; replace hx859_2 := (cell_far (p := ⟨gb854, 2, none⟩) (by first | (rw [add_block]; exact hn859_2) | (show (Addr.add _ _).block ≠ _; rw [add_block]; exact hn859_2) | exact hn859_2) (.int .i64 ((rd_T148 l0 x3_1).f2))).trans hx859_2; replace hx859_3 := (cell_far (p := ⟨gb854, 2, none⟩) (by first | (rw [add_block]; exact hn859_2) | (show (Addr.add _ _).block ≠ _; rw [add_block]; exact hn859_2) | exact hn859_2) (.int .i64 ((rd_T148 l0 x3_1).f2))).trans hx859_3; replace hx859_0 := (cell_far (p := ⟨gb854, 3, none⟩) (by first | (rw [add_block]; exact hn859_3) | (show (Addr.add _ _).block ≠ _; rw [add_block]; exact hn859_3) | exact hn859_3) (.int .i64 ((rd_T148 l0 x3_1).f3))).trans hx859_0; replace hx859_1 := (cell_far (p := ⟨gb854, 3, none⟩) (by first | (rw [add_block]; exact hn859_3) | (show (Addr.add _ _).block ≠ _; rw [add_block]; exact hn859_3) | exact hn859_3) (.int .i64 ((rd_T148 l0 x3_1).f3))).trans hx859_1; replace hx859_2 := (cell_far (p := ⟨gb854, 3, none⟩) (by first | (rw [add_block]; exact hn859_3) | (show (Addr.add _ _).block ≠ _; rw [add_block]; exact hn859_3) | exact hn859_3) (.int .i64 ((rd_T148 l0 x3_1).f3))).trans hx859_2; replace hx859_3 := (cell_far (p := ⟨gb854, 3, none⟩) (by first | (rw [add_block]; exact hn859_3) | (show (Addr.add _ _).block ≠ _; rw [add_block]; exact hn859_3) | exact hn859_3) (.int .i64 ((rd_T148 l0 x3_1).f3))).trans hx859_3; (try have hy859_0 := fun (n_ : Nat) => (show ((((((w19.drewN n_).setCell ⟨gb854, 0, none⟩ (.int .i64 ((rd_T148 l0 x3_1).f0))).setCell ⟨gb854, 1, none⟩ (.int .i64 ((rd_T148 l0 x3_1).f1))).setCell ⟨gb854, 2, none⟩ (.int .i64 ((rd_T148 l0 x3_1).f2))).setCell ⟨gb854, 3, none⟩ (.int .i64 ((rd_T148 l0 x3_1).f3)))).cell? _ = some _ from hx859_0)); (try have hy859_1 := fun (n_ : Nat) => (show ((((((w19.drewN n_).setCell ⟨gb854, 0, none⟩ (.int .i64 ((rd_T148 l0 x3_1).f0))).setCell ⟨gb854, 1, none⟩ (.int .i64 ((rd_T148 l0 x3_1).f1))).setCell ⟨gb854, 2, none⟩ (.int .i64 ((rd_T148 l0 x3_1).f2))).setCell ⟨gb854, 3, none⟩ (.int .i64 ((rd_T148 l0 x3_1).f3)))).cell? _ = some _ from hx859_1)); (try have hy859_2 := fun (n_ : Nat) => (show ((((((w19.drewN n_).setCell ⟨gb854, 0, none⟩ (.int .i64 ((rd_T148 l0 x3_1).f0))).setCell ⟨gb854, 1, none⟩ (.int .i64 ((rd_T148 l0 x3_1).f1))).setCell ⟨gb854, 2, none⟩ (.int .i64 ((rd_T148 l0 x3_1).f2))).setCell ⟨gb854, 3, none⟩ (.int .i64 ((rd_T148 l0 x3_1).f3)))).cell? _ = some _ from hx859_2)); (try have hy859_3 := fun (n_ : Nat) => (show ((((((w19.drewN n_).setCell ⟨gb854, 0, none⟩ (.int .i64 ((rd_T148 l0 x3_1).f0))).setCell ⟨gb854, 1, none⟩ (.int .i64 ((rd_T148 l0 x3_1).f1))).setCell ⟨gb854, 2, none⟩ (.int .i64 ((rd_T148 l0 x3_1).f2))).setCell ⟨gb854, 3, none⟩ (.int .i64 ((rd_T148 l0 x3_1).f3)))).cell? _ = some _ from hx859_3)); clear hn859_0; clear hn859_1; clear hn859_2; clear hn859_3; replace p859 := eq_true p859; replace q859 := eq_true q859))
                          repeat (go_quiet (first | ((with_reducible refine gate_dst (N := 4) rfl ?_); refine box_event ?hg (N := 4) ?hd (cs := #[.int .i64 0, .int .i64 0, .int .i64 0, .int .i64 0]) (t := 148) ?hr ?_; (case hd => rfl); (case hg => rfl); (case hr => first | (go_simp; done) | (go_simp; rfl)); intro gb854 hg w19 hbox hb; have n0_ := Aside0.mk (below_step (by repeat (first | (with_reducible first | exact HB.out | apply below_alloc | apply pw_below_drewN | apply below_drew1) | exact HB.out)) hb); have n1_ := Aside0.mk (hbox); have n2_ := Aside0.mk ((by rw [hg]; exact (below_size (by repeat (first | (with_reducible first | exact HB.out | apply below_alloc | apply pw_below_drewN | apply below_drew1) | exact HB.out))) : w.heap.size ≤ gb854)); have n3_ := Aside0.mk ((by rw [hg]; exact (below_size (by repeat (first | (with_reducible first | exact HB.out | apply below_alloc | apply pw_below_drewN | apply below_drew1) | exact HB.out))) : w.heap.size ≤ gb854)); clear HB; have HB := n0_; have BK854 := n1_; have GW854 := n2_; have GE854 := n3_; clear n0_ n1_ n2_ n3_; clear hb hbox hg; have hcz20_0 : w19.cell? ⟨gb854, 0, none⟩ = some (.int .i64 0) := (blk_cell BK854.out 0).trans rfl; have hcz20_1 : w19.cell? ⟨gb854, 1, none⟩ = some (.int .i64 0) := (blk_cell BK854.out 1).trans rfl; have hcz20_2 : w19.cell? ⟨gb854, 2, none⟩ = some (.int .i64 0) := (blk_cell BK854.out 2).trans rfl; have hcz20_3 : w19.cell? ⟨gb854, 3, none⟩ = some (.int .i64 0) := (blk_cell BK854.out 3).trans rfl; have hfz20_0 := blk_frozen BK854.out 0; have hfz20_1 := blk_frozen BK854.out 1; have hfz20_2 := blk_frozen BK854.out 2; have hfz20_3 := blk_frozen BK854.out 3) | (go_at_call 108; (with_reducible refine (spec_l00In.calls ((rd_T148 l0 x3_1).f0) 0 60 true _ A4.out).mono ?_); rintro e w' ⟨rfl, ⟨nd, rfl⟩⟩; (try first | exact ⟨rfl, _, World.drewN_drewN _ _ _⟩ | exact ⟨rfl, _, Eq.trans (World.drewN_drewN _ _ _) (congrArg (World.drewN _) (Nat.add_assoc _ _ _))⟩)) | (go_at_call 135; (with_reducible refine (spec_l07Litres.calls ((rd_T148 l0 x3_1).f1) true _ A6.out).mono ?_); rintro e w' ⟨rfl, ⟨nd, rfl⟩⟩; (try first | exact ⟨rfl, _, World.drewN_drewN _ _ _⟩ | exact ⟨rfl, _, Eq.trans (World.drewN_drewN _ _ _) (congrArg (World.drewN _) (Nat.add_assoc _ _ _))⟩)) | (go_at_call 135; (with_reducible refine (spec_l07Litres.calls ((rd_T148 l0 x3_1).f2) true _ A8.out).mono ?_); rintro e w' ⟨rfl, ⟨nd, rfl⟩⟩; (try first | exact ⟨rfl, _, World.drewN_drewN _ _ _⟩ | exact ⟨rfl, _, Eq.trans (World.drewN_drewN _ _ _) (congrArg (World.drewN _) (Nat.add_assoc _ _ _))⟩)) | (go_at_call 108; (with_reducible refine (spec_l00In.calls ((rd_T148 l0 x3_1).f3) 0 100 true _ A10.out).mono ?_); rintro e w' ⟨rfl, ⟨nd, rfl⟩⟩; (try first | exact ⟨rfl, _, World.drewN_drewN _ _ _⟩ | exact ⟨rfl, _, Eq.trans (World.drewN_drewN _ _ _) (congrArg (World.drewN _) (Nat.add_assoc _ _ _))⟩); have p859 : 0 ≤ ((ji13) : Int) := of_decide_eq_true (by first | (with_reducible assumption) | assumption); have q859 : (ji13) < (l0.length : Int) := of_decide_eq_true (by first | (with_reducible assumption) | assumption); obtain ⟨ad859, e859, hx859_0, hx859_1, hx859_2, hx859_3⟩ := at_T148 HR0.out (ji13) p859 q859; obtain rfl : ad853 = ad859 := (by injection e859); have hn859_0 : ad853.block ≠ gb854 := Nat.ne_of_lt (Nat.lt_of_lt_of_le (by have := World.block_lt_of_cell? _ _ hx859_0; first | rwa [add_block] at this | exact this) GW854.out); have hn859_1 : ad853.block ≠ gb854 := Nat.ne_of_lt (Nat.lt_of_lt_of_le (by have := World.block_lt_of_cell? _ _ hx859_0; first | rwa [add_block] at this | exact this) GW854.out); have hn859_2 : ad853.block ≠ gb854 := Nat.ne_of_lt (Nat.lt_of_lt_of_le (by have := World.block_lt_of_cell? _ _ hx859_0; first | rwa [add_block] at this | exact this) GW854.out); have hn859_3 : ad853.block ≠ gb854 := Nat.ne_of_lt (Nat.lt_of_lt_of_le (by have := World.block_lt_of_cell? _ _ hx859_0; first | rwa [add_block] at this | exact this) GW854.out); replace hx859_0 := (HB.out.cell (World.block_lt_of_cell? w _ hx859_0)).trans hx859_0; replace hx859_1 := (HB.out.cell (World.block_lt_of_cell? w _ hx859_1)).trans hx859_1; replace hx859_2 := (HB.out.cell (World.block_lt_of_cell? w _ hx859_2)).trans hx859_2; replace hx859_3 := (HB.out.cell (World.block_lt_of_cell? w _ hx859_3)).trans hx859_3; replace hx859_0 := (cell_far (p := ⟨gb854, 0, none⟩) (by first | (rw [add_block]; exact hn859_0) | (show (Addr.add _ _).block ≠ _; rw [add_block]; exact hn859_0) | exact hn859_0) (.int .i64 ((rd_T148 l0 x3_1).f0))).trans hx859_0; replace hx859_1 := (cell_far (p := ⟨gb854, 0, none⟩) (by first | (rw [add_block]; exact hn859_0) | (show (Addr.add _ _).block ≠ _; rw [add_block]; exact hn859_0) | exact hn859_0) (.int .i64 ((rd_T148 l0 x3_1).f0))).trans hx859_1; replace hx859_2 := (cell_far (p := ⟨gb854, 0, none⟩) (by first | (rw [add_block]; exact hn859_0) | (show (Addr.add _ _).block ≠ _; rw [add_block]; exact hn859_0) | exact hn859_0) (.int .i64 ((rd_T148 l0 x3_1).f0))).trans hx859_2; replace hx859_3 := (cell_far (p := ⟨gb854, 0, none⟩) (by first | (rw [add_block]; exact hn859_0) | (show (Addr.add _ _).block ≠ _; rw [add_block]; exact hn859_0) | exact hn859_0) (.int .i64 ((rd_T148 l0 x3_1).f0))).trans hx859_3; replace hx859_0 := (cell_far (p := ⟨gb854, 1, none⟩) (by first | (rw [add_block]; exact hn859_1) | (show (Addr.add _ _).block ≠ _; rw [add_block]; exact hn859_1) | exact hn859_1) (.int .i64 ((rd_T148 l0 x3_1).f1))).trans hx859_0; replace hx859_1 := (cell_far (p := ⟨gb854, 1, none⟩) (by first | (rw [add_block]; exact hn859_1) | (show (Addr.add _ _).block ≠ _; rw [add_block]; exact hn859_1) | exact hn859_1) (.int .i64 ((rd_T148 l0 x3_1).f1))).trans hx859_1; replace hx859_2 := (cell_far (p := ⟨gb854, 1, none⟩) (by first | (rw [add_block]; exact hn859_1) | (show (Addr.add _ _).block ≠ _; rw [add_block]; exact hn859_1) | exact hn859_1) (.int .i64 ((rd_T148 l0 x3_1).f1))).trans hx859_2; replace hx859_3 := (cell_far (p := ⟨gb854, 1, none⟩) (by first | (rw [add_block]; exact hn859_1) | (show (Addr.add _ _).block ≠ _; rw [add_block]; exact hn859_1) | exact hn859_1) (.int .i64 ((rd_T148 l0 x3_1).f1))).trans hx859_3; replace hx859_0 := (cell_far (p := ⟨gb854, 2, none⟩) (by first | (rw [add_block]; exact hn859_2) | (show (Addr.add _ _).block ≠ _; rw [add_block]; exact hn859_2) | exact hn859_2) (.int .i64 ((rd_T148 l0 x3_1).f2))).trans hx859_0; replace hx859_1 := (cell_far (p := ⟨gb854, 2, none⟩) (by first | (rw [add_block]; exact hn859_2) | (show (Addr.add _ _).block ≠ _; rw [add_block]; exact hn859_2) | exact hn859_2) (.int .i64 ((rd_T148 l0 x3_1).f2))).trans hx859_1; replace hx859_2 := (cell_far (p := ⟨gb854, 2, none⟩) (by first | (rw [add_block]; exact hn859_2) | (show (Addr.add _ _).block ≠ _; rw [add_block]; exact hn859_2) | exact hn859_2) (.int .i64 ((rd_T148 l0 x3_1).f2))).trans hx859_2; replace hx859_3 := (cell_far (p := ⟨gb854, 2, none⟩) (by first | (rw [add_block]; exact hn859_2) | (show (Addr.add _ _).block ≠ _; rw [add_block]; exact hn859_2) | exact hn859_2) (.int .i64 ((rd_T148 l0 x3_1).f2))).trans hx859_3; replace hx859_0 := (cell_far (p := ⟨gb854, 3, none⟩) (by first | (rw [add_block]; exact hn859_3) | (show (Addr.add _ _).block ≠ _; rw [add_block]; exact hn859_3) | exact hn859_3) (.int .i64 ((rd_T148 l0 x3_1).f3))).trans hx859_0; replace hx859_1 := (cell_far (p := ⟨gb854, 3, none⟩) (by first | (rw [add_block]; exact hn859_3) | (show (Addr.add _ _).block ≠ _; rw [add_block]; exact hn859_3) | exact hn859_3) (.int .i64 ((rd_T148 l0 x3_1).f3))).trans hx859_1; replace hx859_2 := (cell_far (p := ⟨gb854, 3, none⟩) (by first | (rw [add_block]; exact hn859_3) | (show (Addr.add _ _).block ≠ _; rw [add_block]; exact hn859_3) | exact hn859_3) (.int .i64 ((rd_T148 l0 x3_1).f3))).trans hx859_2; replace hx859_3 := (cell_far (p := ⟨gb854, 3, none⟩) (by first | (rw [add_block]; exact hn859_3) | (show (Addr.add _ _).block ≠ _; rw [add_block]; exact hn859_3) | exact hn859_3) (.int .i64 ((rd_T148 l0 x3_1).f3))).trans hx859_3; (try have hy859_0 := fun (n_ : Nat) => (show ((((((w19.drewN n_).setCell ⟨gb854, 0, none⟩ (.int .i64 ((rd_T148 l0 x3_1).f0))).setCell ⟨gb854, 1, none⟩ (.int .i64 ((rd_T148 l0 x3_1).f1))).setCell ⟨gb854, 2, none⟩ (.int .i64 ((rd_T148 l0 x3_1).f2))).setCell ⟨gb854, 3, none⟩ (.int .i64 ((rd_T148 l0 x3_1).f3)))).cell? _ = some _ from hx859_0)); (try have hy859_1 := fun (n_ : Nat) => (show ((((((w19.drewN n_).setCell ⟨gb854, 0, none⟩ (.int .i64 ((rd_T148 l0 x3_1).f0))).setCell ⟨gb854, 1, none⟩ (.int .i64 ((rd_T148 l0 x3_1).f1))).setCell ⟨gb854, 2, none⟩ (.int .i64 ((rd_T148 l0 x3_1).f2))).setCell ⟨gb854, 3, none⟩ (.int .i64 ((rd_T148 l0 x3_1).f3)))).cell? _ = some _ from hx859_1)); (try have hy859_2 := fun (n_ : Nat) => (show ((((((w19.drewN n_).setCell ⟨gb854, 0, none⟩ (.int .i64 ((rd_T148 l0 x3_1).f0))).setCell ⟨gb854, 1, none⟩ (.int .i64 ((rd_T148 l0 x3_1).f1))).setCell ⟨gb854, 2, none⟩ (.int .i64 ((rd_T148 l0 x3_1).f2))).setCell ⟨gb854, 3, none⟩ (.int .i64 ((rd_T148 l0 x3_1).f3)))).cell? _ = some _ from hx859_2)); (try have hy859_3 := fun (n_ : Nat) => (show ((((((w19.drewN n_).setCell ⟨gb854, 0, none⟩ (.int .i64 ((rd_T148 l0 x3_1).f0))).setCell ⟨gb854, 1, none⟩ (.int .i64 ((rd_T148 l0 x3_1).f1))).setCell ⟨gb854, 2, none⟩ (.int .i64 ((rd_T148 l0 x3_1).f2))).setCell ⟨gb854, 3, none⟩ (.int .i64 ((rd_T148 l0 x3_1).f3)))).cell? _ = some _ from hx859_3)); clear hn859_0; clear hn859_1; clear hn859_2; clear hn859_3; replace p859 := eq_true p859; replace q859 := eq_true q859)); try go_wp2_with (first | ((with_reducible refine gate_dst (N := 4) rfl ?_); refine box_event ?hg (N := 4) ?hd (cs := #[.int .i64 0, .int .i64 0, .int .i64 0, .int .i64 0]) (t := 148) ?hr ?_; (case hd => rfl); (case hg => rfl); (case hr => first | (go_simp; done) | (go_simp; rfl)); intro gb854 hg w19 hbox hb; have n0_ := Aside0.mk (below_step (by repeat (first | (with_reducible first | exact HB.out | apply below_alloc | apply pw_below_drewN | apply below_drew1) | exact HB.out)) hb); have n1_ := Aside0.mk (hbox); have n2_ := Aside0.mk ((by rw [hg]; exact (below_size (by repeat (first | (with_reducible first | exact HB.out | apply below_alloc | apply pw_below_drewN | apply below_drew1) | exact HB.out))) : w.heap.size ≤ gb854)); have n3_ := Aside0.mk ((by rw [hg]; exact (below_size (by repeat (first | (with_reducible first | exact HB.out | apply below_alloc | apply pw_below_drewN | apply below_drew1) | exact HB.out))) : w.heap.size ≤ gb854)); clear HB; have HB := n0_; have BK854 := n1_; have GW854 := n2_; have GE854 := n3_; clear n0_ n1_ n2_ n3_; clear hb hbox hg; have hcz20_0 : w19.cell? ⟨gb854, 0, none⟩ = some (.int .i64 0) := (blk_cell BK854.out 0).trans rfl; have hcz20_1 : w19.cell? ⟨gb854, 1, none⟩ = some (.int .i64 0) := (blk_cell BK854.out 1).trans rfl; have hcz20_2 : w19.cell? ⟨gb854, 2, none⟩ = some (.int .i64 0) := (blk_cell BK854.out 2).trans rfl; have hcz20_3 : w19.cell? ⟨gb854, 3, none⟩ = some (.int .i64 0) := (blk_cell BK854.out 3).trans rfl; have hfz20_0 := blk_frozen BK854.out 0; have hfz20_1 := blk_frozen BK854.out 1; have hfz20_2 := blk_frozen BK854.out 2; have hfz20_3 := blk_frozen BK854.out 3) | (go_at_call 108; (with_reducible refine (spec_l00In.calls ((rd_T148 l0 x3_1).f0) 0 60 true _ A4.out).mono ?_); rintro e w' ⟨rfl, ⟨nd, rfl⟩⟩; (try first | exact ⟨rfl, _, World.drewN_drewN _ _ _⟩ | exact ⟨rfl, _, Eq.trans (World.drewN_drewN _ _ _) (congrArg (World.drewN _) (Nat.add_assoc _ _ _))⟩)) | (go_at_call 135; (with_reducible refine (spec_l07Litres.calls ((rd_T148 l0 x3_1).f1) true _ A6.out).mono ?_); rintro e w' ⟨rfl, ⟨nd, rfl⟩⟩; (try first | exact ⟨rfl, _, World.drewN_drewN _ _ _⟩ | exact ⟨rfl, _, Eq.trans (World.drewN_drewN _ _ _) (congrArg (World.drewN _) (Nat.add_assoc _ _ _))⟩)) | (go_at_call 135; (with_reducible refine (spec_l07Litres.calls ((rd_T148 l0 x3_1).f2) true _ A8.out).mono ?_); rintro e w' ⟨rfl, ⟨nd, rfl⟩⟩; (try first | exact ⟨rfl, _, World.drewN_drewN _ _ _⟩ | exact ⟨rfl, _, Eq.trans (World.drewN_drewN _ _ _) (congrArg (World.drewN _) (Nat.add_assoc _ _ _))⟩)) | (go_at_call 108; (with_reducible refine (spec_l00In.calls ((rd_T148 l0 x3_1).f3) 0 100 true _ A10.out).mono ?_); rintro e w' ⟨rfl, ⟨nd, rfl⟩⟩; (try first | exact ⟨rfl, _, World.drewN_drewN _ _ _⟩ | exact ⟨rfl, _, Eq.trans (World.drewN_drewN _ _ _) (congrArg (World.drewN _) (Nat.add_assoc _ _ _))⟩); have p859 : 0 ≤ ((ji13) : Int) := of_decide_eq_true (by first | (with_reducible assumption) | assumption); have q859 : (ji13) < (l0.length : Int) := of_decide_eq_true (by first | (with_reducible assumption) | assumption); obtain ⟨ad859, e859, hx859_0, hx859_1, hx859_2, hx859_3⟩ := at_T148 HR0.out (ji13) p859 q859; obtain rfl : ad853 = ad859 := (by injection e859); have hn859_0 : ad853.block ≠ gb854 := Nat.ne_of_lt (Nat.lt_of_lt_of_le (by have := World.block_lt_of_cell? _ _ hx859_0; first | rwa [add_block] at this | exact this) GW854.out); have hn859_1 : ad853.block ≠ gb854 := Nat.ne_of_lt (Nat.lt_of_lt_of_le (by have := World.block_lt_of_cell? _ _ hx859_0; first | rwa [add_block] at this | exact this) GW854.out); have hn859_2 : ad853.block ≠ gb854 := Nat.ne_of_lt (Nat.lt_of_lt_of_le (by have := World.block_lt_of_cell? _ _ hx859_0; first | rwa [add_block] at this | exact this) GW854.out); have hn859_3 : ad853.block ≠ gb854 := Nat.ne_of_lt (Nat.lt_of_lt_of_le (by have := World.block_lt_of_cell? _ _ hx859_0; first | rwa [add_block] at this | exact this) GW854.out); replace hx859_0 := (HB.out.cell (World.block_lt_of_cell? w _ hx859_0)).trans hx859_0; replace hx859_1 := (HB.out.cell (World.block_lt_of_cell? w _ hx859_1)).trans hx859_1; replace hx859_2 := (HB.out.cell (World.block_lt_of_cell? w _ hx859_2)).trans hx859_2; replace hx859_3 := (HB.out.cell (World.block_lt_of_cell? w _ hx859_3)).trans hx859_3; replace hx859_0 := (cell_far (p := ⟨gb854, 0, none⟩) (by first | (rw [add_block]; exact hn859_0) | (show (Addr.add _ _).block ≠ _; rw [add_block]; exact hn859_0) | exact hn859_0) (.int .i64 ((rd_T148 l0 x3_1).f0))).trans hx859_0; replace hx859_1 := (cell_far (p := ⟨gb854, 0, none⟩) (by first | (rw [add_block]; exact hn859_0) | (show (Addr.add _ _).block ≠ _; rw [add_block]; exact hn859_0) | exact hn859_0) (.int .i64 ((rd_T148 l0 x3_1).f0))).trans hx859_1; replace hx859_2 := (cell_far (p := ⟨gb854, 0, none⟩) (by first | (rw [add_block]; exact hn859_0) | (show (Addr.add _ _).block ≠ _; rw [add_block]; exact hn859_0) | exact hn859_0) (.int .i64 ((rd_T148 l0 x3_1).f0))).trans hx859_2; replace hx859_3 := (cell_far (p := ⟨gb854, 0, none⟩) (by first | (rw [add_block]; exact hn859_0) | (show (Addr.add _ _).block ≠ _; rw [add_block]; exact hn859_0) | exact hn859_0) (.int .i64 ((rd_T148 l0 x3_1).f0))).trans hx859_3; replace hx859_0 := (cell_far (p := ⟨gb854, 1, none⟩) (by first | (rw [add_block]; exact hn859_1) | (show (Addr.add _ _).block ≠ _; rw [add_block]; exact hn859_1) | exact hn859_1) (.int .i64 ((rd_T148 l0 x3_1).f1))).trans hx859_0; replace hx859_1 := (cell_far (p := ⟨gb854, 1, none⟩) (by first | (rw [add_block]; exact hn859_1) | (show (Addr.add _ _).block ≠ _; rw [add_block]; exact hn859_1) | exact hn859_1) (.int .i64 ((rd_T148 l0 x3_1).f1))).trans hx859_1; replace hx859_2 := (cell_far (p := ⟨gb854, 1, none⟩) (by first | (rw [add_block]; exact hn859_1) | (show (Addr.add _ _).block ≠ _; rw [add_block]; exact hn859_1) | exact hn859_1) (.int .i64 ((rd_T148 l0 x3_1).f1))).trans hx859_2; replace hx859_3 := (cell_far (p := ⟨gb854, 1, none⟩) (by first | (rw [add_block]; exact hn859_1) | (show (Addr.add _ _).block ≠ _; rw [add_block]; exact hn859_1) | exact hn859_1) (.int .i64 ((rd_T148 l0 x3_1).f1))).trans hx859_3; replace hx859_0 := (cell_far (p := ⟨gb854, 2, none⟩) (by first | (rw [add_block]; exact hn859_2) | (show (Addr.add _ _).block ≠ _; rw [add_block]; exact hn859_2) | exact hn859_2) (.int .i64 ((rd_T148 l0 x3_1).f2))).trans hx859_0; replace hx859_1 := (cell_far (p := ⟨gb854, 2, none⟩) (by first | (rw [add_block]; exact hn859_2) | (show (Addr.add _ _).block ≠ _; rw [add_block]; exact hn859_2) | exact hn859_2) (.int .i64 ((rd_T148 l0 x3_1).f2))).trans hx859_1; replace hx859_2 := (cell_far (p := ⟨gb854, 2, none⟩) (by first | (rw [add_block]; exact hn859_2) | (show (Addr.add _ _).block ≠ _; rw [add_block]; exact hn859_2) | exact hn859_2) (.int .i64 ((rd_T148 l0 x3_1).f2))).trans hx859_2; replace hx859_3 := (cell_far (p := ⟨gb854, 2, none⟩) (by first | (rw [add_block]; exact hn859_2) | (show (Addr.add _ _).block ≠ _; rw [add_block]; exact hn859_2) | exact hn859_2) (.int .i64 ((rd_T148 l0 x3_1).f2))).trans hx859_3; replace hx859_0 := (cell_far (p := ⟨gb854, 3, none⟩) (by first | (rw [add_block]; exact hn859_3) | (show (Addr.add _ _).block ≠ _; rw [add_block]; exact hn859_3) | exact hn859_3) (.int .i64 ((rd_T148 l0 x3_1).f3))).trans hx859_0; replace hx859_1 := (cell_far (p := ⟨gb854, 3, none⟩) (by first | (rw [add_block]; exact hn859_3) | (show (Addr.add _ _).block ≠ _; rw [add_block]; exact hn859_3) | exact hn859_3) (.int .i64 ((rd_T148 l0 x3_1).f3))).trans hx859_1; replace hx859_2 := (cell_far (p := ⟨gb854, 3, none⟩) (by first | (rw [add_block]; exact hn859_3) | (show (Addr.add _ _).block ≠ _; rw [add_block]; exact hn859_3) | exact hn859_3) (.int .i64 ((rd_T148 l0 x3_1).f3))).trans hx859_2; replace hx859_3 := (cell_far (p := ⟨gb854, 3, none⟩) (by first | (rw [add_block]; exact hn859_3) | (show (Addr.add _ _).block ≠ _; rw [add_block]; exact hn859_3) | exact hn859_3) (.int .i64 ((rd_T148 l0 x3_1).f3))).trans hx859_3; (try have hy859_0 := fun (n_ : Nat) => (show ((((((w19.drewN n_).setCell ⟨gb854, 0, none⟩ (.int .i64 ((rd_T148 l0 x3_1).f0))).setCell ⟨gb854, 1, none⟩ (.int .i64 ((rd_T148 l0 x3_1).f1))).setCell ⟨gb854, 2, none⟩ (.int .i64 ((rd_T148 l0 x3_1).f2))).setCell ⟨gb854, 3, none⟩ (.int .i64 ((rd_T148 l0 x3_1).f3)))).cell? _ = some _ from hx859_0)); (try have hy859_1 := fun (n_ : Nat) => (show ((((((w19.drewN n_).setCell ⟨gb854, 0, none⟩ (.int .i64 ((rd_T148 l0 x3_1).f0))).setCell ⟨gb854, 1, none⟩ (.int .i64 ((rd_T148 l0 x3_1).f1))).setCell ⟨gb854, 2, none⟩ (.int .i64 ((rd_T148 l0 x3_1).f2))).setCell ⟨gb854, 3, none⟩ (.int .i64 ((rd_T148 l0 x3_1).f3)))).cell? _ = some _ from hx859_1)); (try have hy859_2 := fun (n_ : Nat) => (show ((((((w19.drewN n_).setCell ⟨gb854, 0, none⟩ (.int .i64 ((rd_T148 l0 x3_1).f0))).setCell ⟨gb854, 1, none⟩ (.int .i64 ((rd_T148 l0 x3_1).f1))).setCell ⟨gb854, 2, none⟩ (.int .i64 ((rd_T148 l0 x3_1).f2))).setCell ⟨gb854, 3, none⟩ (.int .i64 ((rd_T148 l0 x3_1).f3)))).cell? _ = some _ from hx859_2)); (try have hy859_3 := fun (n_ : Nat) => (show ((((((w19.drewN n_).setCell ⟨gb854, 0, none⟩ (.int .i64 ((rd_T148 l0 x3_1).f0))).setCell ⟨gb854, 1, none⟩ (.int .i64 ((rd_T148 l0 x3_1).f1))).setCell ⟨gb854, 2, none⟩ (.int .i64 ((rd_T148 l0 x3_1).f2))).setCell ⟨gb854, 3, none⟩ (.int .i64 ((rd_T148 l0 x3_1).f3)))).cell? _ = some _ from hx859_3)); clear hn859_0; clear hn859_1; clear hn859_2; clear hn859_3; replace p859 := eq_true p859; replace q859 := eq_true q859)))
                          go_roundg k1
                          case measure => have := HK1.out; omega
                          case rel => exact ⟨(wrap64 (x3_1 + 1)), (by first | rfl | (simp; done) | (simp [*]; done) | (simp [Int.tdiv_eq_ediv_of_nonneg, *]; done)), H', ⟨by have := HK1.out; omega⟩, ⟨by repeat (first | (with_reducible first | exact HB.out | apply below_alloc | apply pw_below_drewN | apply below_drew1 | refine below_set ?_ GE854.out) | exact HB.out)⟩⟩
                      · rw [if_neg c15] at H
                        exact absurd H (by simp)
                    · rw [if_neg c14] at H
                      exact absurd H (by simp)
                  · rw [if_neg c12] at H
                    have c12b0 : decide (0 < x3_1) = false := decide_eq_false c12
                    clear c12
                    have H' := Aside0.mk H
                    clear H
                    have p853 : 0 ≤ (x3_1 : Int) := of_decide_eq_true (by first | (with_reducible assumption) | assumption)
                    have q853 : x3_1 < (l0.length : Int) := of_decide_eq_true (by first | (with_reducible assumption) | assumption)
                    obtain ⟨ad853, e853, hx853_0, hx853_1, hx853_2, hx853_3⟩ := at_T148 HR0.out x3_1 p853 q853
                    cases e853
                    replace hx853_0 := (HB.out.cell (World.block_lt_of_cell? w _ hx853_0)).trans hx853_0
                    replace hx853_1 := (HB.out.cell (World.block_lt_of_cell? w _ hx853_1)).trans hx853_1
                    replace hx853_2 := (HB.out.cell (World.block_lt_of_cell? w _ hx853_2)).trans hx853_2
                    replace hx853_3 := (HB.out.cell (World.block_lt_of_cell? w _ hx853_3)).trans hx853_3
                    replace p853 := eq_true p853
                    replace q853 := eq_true q853
                    go_wp2_with (first | ((with_reducible refine gate_dst (N := 4) rfl ?_); refine box_event ?hg (N := 4) ?hd (cs := #[.int .i64 0, .int .i64 0, .int .i64 0, .int .i64 0]) (t := 148) ?hr ?_; (case hd => rfl); (case hg => rfl); (case hr => first | (go_simp; done) | (go_simp; rfl)); intro gb854 hg w21 hbox hb; have n0_ := Aside0.mk (below_step (by repeat (first | (with_reducible first | exact HB.out | apply below_alloc | apply pw_below_drewN | apply below_drew1) | exact HB.out)) hb); have n1_ := Aside0.mk (hbox); have n2_ := Aside0.mk ((by rw [hg]; exact (below_size (by repeat (first | (with_reducible first | exact HB.out | apply below_alloc | apply pw_below_drewN | apply below_drew1) | exact HB.out))) : w.heap.size ≤ gb854)); have n3_ := Aside0.mk ((by rw [hg]; exact (below_size (by repeat (first | (with_reducible first | exact HB.out | apply below_alloc | apply pw_below_drewN | apply below_drew1) | exact HB.out))) : w.heap.size ≤ gb854)); clear HB; have HB := n0_; have BK854 := n1_; have GW854 := n2_; have GE854 := n3_; clear n0_ n1_ n2_ n3_; clear hb hbox hg; have hcz22_0 : w21.cell? ⟨gb854, 0, none⟩ = some (.int .i64 0) := (blk_cell BK854.out 0).trans rfl; have hcz22_1 : w21.cell? ⟨gb854, 1, none⟩ = some (.int .i64 0) := (blk_cell BK854.out 1).trans rfl; have hcz22_2 : w21.cell? ⟨gb854, 2, none⟩ = some (.int .i64 0) := (blk_cell BK854.out 2).trans rfl; have hcz22_3 : w21.cell? ⟨gb854, 3, none⟩ = some (.int .i64 0) := (blk_cell BK854.out 3).trans rfl; have hfz22_0 := blk_frozen BK854.out 0; have hfz22_1 := blk_frozen BK854.out 1; have hfz22_2 := blk_frozen BK854.out 2; have hfz22_3 := blk_frozen BK854.out 3) | (go_at_call 108; (with_reducible refine (spec_l00In.calls ((rd_T148 l0 x3_1).f0) 0 60 true _ A4.out).mono ?_); rintro e w' ⟨rfl, ⟨nd, rfl⟩⟩; (try first | exact ⟨rfl, _, World.drewN_drewN _ _ _⟩ | exact ⟨rfl, _, Eq.trans (World.drewN_drewN _ _ _) (congrArg (World.drewN _) (Nat.add_assoc _ _ _))⟩)) | (go_at_call 135; (with_reducible refine (spec_l07Litres.calls ((rd_T148 l0 x3_1).f1) true _ A6.out).mono ?_); rintro e w' ⟨rfl, ⟨nd, rfl⟩⟩; (try first | exact ⟨rfl, _, World.drewN_drewN _ _ _⟩ | exact ⟨rfl, _, Eq.trans (World.drewN_drewN _ _ _) (congrArg (World.drewN _) (Nat.add_assoc _ _ _))⟩)) | (go_at_call 135; (with_reducible refine (spec_l07Litres.calls ((rd_T148 l0 x3_1).f2) true _ A8.out).mono ?_); rintro e w' ⟨rfl, ⟨nd, rfl⟩⟩; (try first | exact ⟨rfl, _, World.drewN_drewN _ _ _⟩ | exact ⟨rfl, _, Eq.trans (World.drewN_drewN _ _ _) (congrArg (World.drewN _) (Nat.add_assoc _ _ _))⟩)) | (go_at_call 108; (with_reducible refine (spec_l00In.calls ((rd_T148 l0 x3_1).f3) 0 100 true _ A10.out).mono ?_); rintro e w' ⟨rfl, ⟨nd, rfl⟩⟩; (try first | exact ⟨rfl, _, World.drewN_drewN _ _ _⟩ | exact ⟨rfl, _, Eq.trans (World.drewN_drewN _ _ _) (congrArg (World.drewN _) (Nat.add_assoc _ _ _))⟩)))
                    repeat (go_quiet (first | ((with_reducible refine gate_dst (N := 4) rfl ?_); refine box_event ?hg (N := 4) ?hd (cs := #[.int .i64 0, .int .i64 0, .int .i64 0, .int .i64 0]) (t := 148) ?hr ?_; (case hd => rfl); (case hg => rfl); (case hr => first | (go_simp; done) | (go_simp; rfl)); intro gb854 hg w21 hbox hb; have n0_ := Aside0.mk (below_step (by repeat (first | (with_reducible first | exact HB.out | apply below_alloc | apply pw_below_drewN | apply below_drew1) | exact HB.out)) hb); have n1_ := Aside0.mk (hbox); have n2_ := Aside0.mk ((by rw [hg]; exact (below_size (by repeat (first | (with_reducible first | exact HB.out | apply below_alloc | apply pw_below_drewN | apply below_drew1) | exact HB.out))) : w.heap.size ≤ gb854)); have n3_ := Aside0.mk ((by rw [hg]; exact (below_size (by repeat (first | (with_reducible first | exact HB.out | apply below_alloc | apply pw_below_drewN | apply below_drew1) | exact HB.out))) : w.heap.size ≤ gb854)); clear HB; have HB := n0_; have BK854 := n1_; have GW854 := n2_; have GE854 := n3_; clear n0_ n1_ n2_ n3_; clear hb hbox hg; have hcz22_0 : w21.cell? ⟨gb854, 0, none⟩ = some (.int .i64 0) := (blk_cell BK854.out 0).trans rfl; have hcz22_1 : w21.cell? ⟨gb854, 1, none⟩ = some (.int .i64 0) := (blk_cell BK854.out 1).trans rfl; have hcz22_2 : w21.cell? ⟨gb854, 2, none⟩ = some (.int .i64 0) := (blk_cell BK854.out 2).trans rfl; have hcz22_3 : w21.cell? ⟨gb854, 3, none⟩ = some (.int .i64 0) := (blk_cell BK854.out 3).trans rfl; have hfz22_0 := blk_frozen BK854.out 0; have hfz22_1 := blk_frozen BK854.out 1; have hfz22_2 := blk_frozen BK854.out 2; have hfz22_3 := blk_frozen BK854.out 3) | (go_at_call 108; (with_reducible refine (spec_l00In.calls ((rd_T148 l0 x3_1).f0) 0 60 true _ A4.out).mono ?_); rintro e w' ⟨rfl, ⟨nd, rfl⟩⟩; (try first | exact ⟨rfl, _, World.drewN_drewN _ _ _⟩ | exact ⟨rfl, _, Eq.trans (World.drewN_drewN _ _ _) (congrArg (World.drewN _) (Nat.add_assoc _ _ _))⟩)) | (go_at_call 135; (with_reducible refine (spec_l07Litres.calls ((rd_T148 l0 x3_1).f1) true _ A6.out).mono ?_); rintro e w' ⟨rfl, ⟨nd, rfl⟩⟩; (try first | exact ⟨rfl, _, World.drewN_drewN _ _ _⟩ | exact ⟨rfl, _, Eq.trans (World.drewN_drewN _ _ _) (congrArg (World.drewN _) (Nat.add_assoc _ _ _))⟩)) | (go_at_call 135; (with_reducible refine (spec_l07Litres.calls ((rd_T148 l0 x3_1).f2) true _ A8.out).mono ?_); rintro e w' ⟨rfl, ⟨nd, rfl⟩⟩; (try first | exact ⟨rfl, _, World.drewN_drewN _ _ _⟩ | exact ⟨rfl, _, Eq.trans (World.drewN_drewN _ _ _) (congrArg (World.drewN _) (Nat.add_assoc _ _ _))⟩)) | (go_at_call 108; (with_reducible refine (spec_l00In.calls ((rd_T148 l0 x3_1).f3) 0 100 true _ A10.out).mono ?_); rintro e w' ⟨rfl, ⟨nd, rfl⟩⟩; (try first | exact ⟨rfl, _, World.drewN_drewN _ _ _⟩ | exact ⟨rfl, _, Eq.trans (World.drewN_drewN _ _ _) (congrArg (World.drewN _) (Nat.add_assoc _ _ _))⟩))); try go_wp2_with (first | ((with_reducible refine gate_dst (N := 4) rfl ?_); refine box_event ?hg (N := 4) ?hd (cs := #[.int .i64 0, .int .i64 0, .int .i64 0, .int .i64 0]) (t := 148) ?hr ?_; (case hd => rfl); (case hg => rfl); (case hr => first | (go_simp; done) | (go_simp; rfl)); intro gb854 hg w21 hbox hb; have n0_ := Aside0.mk (below_step (by repeat (first | (with_reducible first | exact HB.out | apply below_alloc | apply pw_below_drewN | apply below_drew1) | exact HB.out)) hb); have n1_ := Aside0.mk (hbox); have n2_ := Aside0.mk ((by rw [hg]; exact (below_size (by repeat (first | (with_reducible first | exact HB.out | apply below_alloc | apply pw_below_drewN | apply below_drew1) | exact HB.out))) : w.heap.size ≤ gb854)); have n3_ := Aside0.mk ((by rw [hg]; exact (below_size (by repeat (first | (with_reducible first | exact HB.out | apply below_alloc | apply pw_below_drewN | apply below_drew1) | exact HB.out))) : w.heap.size ≤ gb854)); clear HB; have HB := n0_; have BK854 := n1_; have GW854 := n2_; have GE854 := n3_; clear n0_ n1_ n2_ n3_; clear hb hbox hg; have hcz22_0 : w21.cell? ⟨gb854, 0, none⟩ = some (.int .i64 0) := (blk_cell BK854.out 0).trans rfl; have hcz22_1 : w21.cell? ⟨gb854, 1, none⟩ = some (.int .i64 0) := (blk_cell BK854.out 1).trans rfl; have hcz22_2 : w21.cell? ⟨gb854, 2, none⟩ = some (.int .i64 0) := (blk_cell BK854.out 2).trans rfl; have hcz22_3 : w21.cell? ⟨gb854, 3, none⟩ = some (.int .i64 0) := (blk_cell BK854.out 3).trans rfl; have hfz22_0 := blk_frozen BK854.out 0; have hfz22_1 := blk_frozen BK854.out 1; have hfz22_2 := blk_frozen BK854.out 2; have hfz22_3 := blk_frozen BK854.out 3) | (go_at_call 108; (with_reducible refine (spec_l00In.calls ((rd_T148 l0 x3_1).f0) 0 60 true _ A4.out).mono ?_); rintro e w' ⟨rfl, ⟨nd, rfl⟩⟩; (try first | exact ⟨rfl, _, World.drewN_drewN _ _ _⟩ | exact ⟨rfl, _, Eq.trans (World.drewN_drewN _ _ _) (congrArg (World.drewN _) (Nat.add_assoc _ _ _))⟩)) | (go_at_call 135; (with_reducible refine (spec_l07Litres.calls ((rd_T148 l0 x3_1).f1) true _ A6.out).mono ?_); rintro e w' ⟨rfl, ⟨nd, rfl⟩⟩; (try first | exact ⟨rfl, _, World.drewN_drewN _ _ _⟩ | exact ⟨rfl, _, Eq.trans (World.drewN_drewN _ _ _) (congrArg (World.drewN _) (Nat.add_assoc _ _ _))⟩)) | (go_at_call 135; (with_reducible refine (spec_l07Litres.calls ((rd_T148 l0 x3_1).f2) true _ A8.out).mono ?_); rintro e w' ⟨rfl, ⟨nd, rfl⟩⟩; (try first | exact ⟨rfl, _, World.drewN_drewN _ _ _⟩ | exact ⟨rfl, _, Eq.trans (World.drewN_drewN _ _ _) (congrArg (World.drewN _) (Nat.add_assoc _ _ _))⟩)) | (go_at_call 108; (with_reducible refine (spec_l00In.calls ((rd_T148 l0 x3_1).f3) 0 100 true _ A10.out).mono ?_); rintro e w' ⟨rfl, ⟨nd, rfl⟩⟩; (try first | exact ⟨rfl, _, World.drewN_drewN _ _ _⟩ | exact ⟨rfl, _, Eq.trans (World.drewN_drewN _ _ _) (congrArg (World.drewN _) (Nat.add_assoc _ _ _))⟩))))
                    go_roundg k1
                    case measure => have := HK1.out; omega
                    case rel => exact ⟨(wrap64 (x3_1 + 1)), (by first | rfl | (simp; done) | (simp [*]; done) | (simp [Int.tdiv_eq_ediv_of_nonneg, *]; done)), H', ⟨by have := HK1.out; omega⟩, ⟨by repeat (first | (with_reducible first | exact HB.out | apply below_alloc | apply pw_below_drewN | apply below_drew1 | refine below_set ?_ GE854.out) | exact HB.out)⟩⟩
                · replace c11 := Bool.eq_false_iff.mpr c11
                  subst c11
                  have H1 : (some false) = some r := by rw [if_neg (show ¬ (false = true) by decide)] at H; exact H
                  clear H
                  have H := H1
                  clear H1
                  obtain rfl := Option.some.inj H
                  have p853 : 0 ≤ (x3_1 : Int) := of_decide_eq_true (by first | (with_reducible assumption) | assumption)
                  have q853 : x3_1 < (l0.length : Int) := of_decide_eq_true (by first | (with_reducible assumption) | assumption)
                  obtain ⟨ad853, e853, hx853_0, hx853_1, hx853_2, hx853_3⟩ := at_T148 HR0.out x3_1 p853 q853
                  cases e853
                  replace hx853_0 := (HB.out.cell (World.block_lt_of_cell? w _ hx853_0)).trans hx853_0
                  replace hx853_1 := (HB.out.cell (World.block_lt_of_cell? w _ hx853_1)).trans hx853_1
                  replace hx853_2 := (HB.out.cell (World.block_lt_of_cell? w _ hx853_2)).trans hx853_2
                  replace hx853_3 := (HB.out.cell (World.block_lt_of_cell? w _ hx853_3)).trans hx853_3
                  replace p853 := eq_true p853
                  replace q853 := eq_true q853
                  go_wp2_with (first | ((with_reducible refine gate_dst (N := 4) rfl ?_); refine box_event ?hg (N := 4) ?hd (cs := #[.int .i64 0, .int .i64 0, .int .i64 0, .int .i64 0]) (t := 148) ?hr ?_; (case hd => rfl); (case hg => rfl); (case hr => first | (go_simp; done) | (go_simp; rfl)); intro gb854 hg w23 hbox hb; have n0_ := Aside0.mk (below_step (by repeat (first | (with_reducible first | exact HB.out | apply below_alloc | apply pw_below_drewN | apply below_drew1) | exact HB.out)) hb); have n1_ := Aside0.mk (hbox); have n2_ := Aside0.mk ((by rw [hg]; exact (below_size (by repeat (first | (with_reducible first | exact HB.out | apply below_alloc | apply pw_below_drewN | apply below_drew1) | exact HB.out))) : w.heap.size ≤ gb854)); have n3_ := Aside0.mk ((by rw [hg]; exact (below_size (by repeat (first | (with_reducible first | exact HB.out | apply below_alloc | apply pw_below_drewN | apply below_drew1) | exact HB.out))) : w.heap.size ≤ gb854)); clear HB; have HB := n0_; have BK854 := n1_; have GW854 := n2_; have GE854 := n3_; clear n0_ n1_ n2_ n3_; clear hb hbox hg; have hcz24_0 : w23.cell? ⟨gb854, 0, none⟩ = some (.int .i64 0) := (blk_cell BK854.out 0).trans rfl; have hcz24_1 : w23.cell? ⟨gb854, 1, none⟩ = some (.int .i64 0) := (blk_cell BK854.out 1).trans rfl; have hcz24_2 : w23.cell? ⟨gb854, 2, none⟩ = some (.int .i64 0) := (blk_cell BK854.out 2).trans rfl; have hcz24_3 : w23.cell? ⟨gb854, 3, none⟩ = some (.int .i64 0) := (blk_cell BK854.out 3).trans rfl; have hfz24_0 := blk_frozen BK854.out 0; have hfz24_1 := blk_frozen BK854.out 1; have hfz24_2 := blk_frozen BK854.out 2; have hfz24_3 := blk_frozen BK854.out 3) | (go_at_call 108; (with_reducible refine (spec_l00In.calls ((rd_T148 l0 x3_1).f0) 0 60 true _ A4.out).mono ?_); rintro e w' ⟨rfl, ⟨nd, rfl⟩⟩; (try first | exact ⟨rfl, _, World.drewN_drewN _ _ _⟩ | exact ⟨rfl, _, Eq.trans (World.drewN_drewN _ _ _) (congrArg (World.drewN _) (Nat.add_assoc _ _ _))⟩)) | (go_at_call 135; (with_reducible refine (spec_l07Litres.calls ((rd_T148 l0 x3_1).f1) true _ A6.out).mono ?_); rintro e w' ⟨rfl, ⟨nd, rfl⟩⟩; (try first | exact ⟨rfl, _, World.drewN_drewN _ _ _⟩ | exact ⟨rfl, _, Eq.trans (World.drewN_drewN _ _ _) (congrArg (World.drewN _) (Nat.add_assoc _ _ _))⟩)) | (go_at_call 135; (with_reducible refine (spec_l07Litres.calls ((rd_T148 l0 x3_1).f2) true _ A8.out).mono ?_); rintro e w' ⟨rfl, ⟨nd, rfl⟩⟩; (try first | exact ⟨rfl, _, World.drewN_drewN _ _ _⟩ | exact ⟨rfl, _, Eq.trans (World.drewN_drewN _ _ _) (congrArg (World.drewN _) (Nat.add_assoc _ _ _))⟩)) | (go_at_call 108; (with_reducible refine (spec_l00In.calls ((rd_T148 l0 x3_1).f3) 0 100 false _ A10.out).mono ?_); rintro e w' ⟨rfl, ⟨nd, rfl⟩⟩; (try first | exact ⟨rfl, _, World.drewN_drewN _ _ _⟩ | exact ⟨rfl, _, Eq.trans (World.drewN_drewN _ _ _) (congrArg (World.drewN _) (Nat.add_assoc _ _ _))⟩)))
                  repeat (go_quiet (first | ((with_reducible refine gate_dst (N := 4) rfl ?_); refine box_event ?hg (N := 4) ?hd (cs := #[.int .i64 0, .int .i64 0, .int .i64 0, .int .i64 0]) (t := 148) ?hr ?_; (case hd => rfl); (case hg => rfl); (case hr => first | (go_simp; done) | (go_simp; rfl)); intro gb854 hg w23 hbox hb; have n0_ := Aside0.mk (below_step (by repeat (first | (with_reducible first | exact HB.out | apply below_alloc | apply pw_below_drewN | apply below_drew1) | exact HB.out)) hb); have n1_ := Aside0.mk (hbox); have n2_ := Aside0.mk ((by rw [hg]; exact (below_size (by repeat (first | (with_reducible first | exact HB.out | apply below_alloc | apply pw_below_drewN | apply below_drew1) | exact HB.out))) : w.heap.size ≤ gb854)); have n3_ := Aside0.mk ((by rw [hg]; exact (below_size (by repeat (first | (with_reducible first | exact HB.out | apply below_alloc | apply pw_below_drewN | apply below_drew1) | exact HB.out))) : w.heap.size ≤ gb854)); clear HB; have HB := n0_; have BK854 := n1_; have GW854 := n2_; have GE854 := n3_; clear n0_ n1_ n2_ n3_; clear hb hbox hg; have hcz24_0 : w23.cell? ⟨gb854, 0, none⟩ = some (.int .i64 0) := (blk_cell BK854.out 0).trans rfl; have hcz24_1 : w23.cell? ⟨gb854, 1, none⟩ = some (.int .i64 0) := (blk_cell BK854.out 1).trans rfl; have hcz24_2 : w23.cell? ⟨gb854, 2, none⟩ = some (.int .i64 0) := (blk_cell BK854.out 2).trans rfl; have hcz24_3 : w23.cell? ⟨gb854, 3, none⟩ = some (.int .i64 0) := (blk_cell BK854.out 3).trans rfl; have hfz24_0 := blk_frozen BK854.out 0; have hfz24_1 := blk_frozen BK854.out 1; have hfz24_2 := blk_frozen BK854.out 2; have hfz24_3 := blk_frozen BK854.out 3) | (go_at_call 108; (with_reducible refine (spec_l00In.calls ((rd_T148 l0 x3_1).f0) 0 60 true _ A4.out).mono ?_); rintro e w' ⟨rfl, ⟨nd, rfl⟩⟩; (try first | exact ⟨rfl, _, World.drewN_drewN _ _ _⟩ | exact ⟨rfl, _, Eq.trans (World.drewN_drewN _ _ _) (congrArg (World.drewN _) (Nat.add_assoc _ _ _))⟩)) | (go_at_call 135; (with_reducible refine (spec_l07Litres.calls ((rd_T148 l0 x3_1).f1) true _ A6.out).mono ?_); rintro e w' ⟨rfl, ⟨nd, rfl⟩⟩; (try first | exact ⟨rfl, _, World.drewN_drewN _ _ _⟩ | exact ⟨rfl, _, Eq.trans (World.drewN_drewN _ _ _) (congrArg (World.drewN _) (Nat.add_assoc _ _ _))⟩)) | (go_at_call 135; (with_reducible refine (spec_l07Litres.calls ((rd_T148 l0 x3_1).f2) true _ A8.out).mono ?_); rintro e w' ⟨rfl, ⟨nd, rfl⟩⟩; (try first | exact ⟨rfl, _, World.drewN_drewN _ _ _⟩ | exact ⟨rfl, _, Eq.trans (World.drewN_drewN _ _ _) (congrArg (World.drewN _) (Nat.add_assoc _ _ _))⟩)) | (go_at_call 108; (with_reducible refine (spec_l00In.calls ((rd_T148 l0 x3_1).f3) 0 100 false _ A10.out).mono ?_); rintro e w' ⟨rfl, ⟨nd, rfl⟩⟩; (try first | exact ⟨rfl, _, World.drewN_drewN _ _ _⟩ | exact ⟨rfl, _, Eq.trans (World.drewN_drewN _ _ _) (congrArg (World.drewN _) (Nat.add_assoc _ _ _))⟩))); try go_wp2_with (first | ((with_reducible refine gate_dst (N := 4) rfl ?_); refine box_event ?hg (N := 4) ?hd (cs := #[.int .i64 0, .int .i64 0, .int .i64 0, .int .i64 0]) (t := 148) ?hr ?_; (case hd => rfl); (case hg => rfl); (case hr => first | (go_simp; done) | (go_simp; rfl)); intro gb854 hg w23 hbox hb; have n0_ := Aside0.mk (below_step (by repeat (first | (with_reducible first | exact HB.out | apply below_alloc | apply pw_below_drewN | apply below_drew1) | exact HB.out)) hb); have n1_ := Aside0.mk (hbox); have n2_ := Aside0.mk ((by rw [hg]; exact (below_size (by repeat (first | (with_reducible first | exact HB.out | apply below_alloc | apply pw_below_drewN | apply below_drew1) | exact HB.out))) : w.heap.size ≤ gb854)); have n3_ := Aside0.mk ((by rw [hg]; exact (below_size (by repeat (first | (with_reducible first | exact HB.out | apply below_alloc | apply pw_below_drewN | apply below_drew1) | exact HB.out))) : w.heap.size ≤ gb854)); clear HB; have HB := n0_; have BK854 := n1_; have GW854 := n2_; have GE854 := n3_; clear n0_ n1_ n2_ n3_; clear hb hbox hg; have hcz24_0 : w23.cell? ⟨gb854, 0, none⟩ = some (.int .i64 0) := (blk_cell BK854.out 0).trans rfl; have hcz24_1 : w23.cell? ⟨gb854, 1, none⟩ = some (.int .i64 0) := (blk_cell BK854.out 1).trans rfl; have hcz24_2 : w23.cell? ⟨gb854, 2, none⟩ = some (.int .i64 0) := (blk_cell BK854.out 2).trans rfl; have hcz24_3 : w23.cell? ⟨gb854, 3, none⟩ = some (.int .i64 0) := (blk_cell BK854.out 3).trans rfl; have hfz24_0 := blk_frozen BK854.out 0; have hfz24_1 := blk_frozen BK854.out 1; have hfz24_2 := blk_frozen BK854.out 2; have hfz24_3 := blk_frozen BK854.out 3) | (go_at_call 108; (with_reducible refine (spec_l00In.calls ((rd_T148 l0 x3_1).f0) 0 60 true _ A4.out).mono ?_); rintro e w' ⟨rfl, ⟨nd, rfl⟩⟩; (try first | exact ⟨rfl, _, World.drewN_drewN _ _ _⟩ | exact ⟨rfl, _, Eq.trans (World.drewN_drewN _ _ _) (congrArg (World.drewN _) (Nat.add_assoc _ _ _))⟩)) | (go_at_call 135; (with_reducible refine (spec_l07Litres.calls ((rd_T148 l0 x3_1).f1) true _ A6.out).mono ?_); rintro e w' ⟨rfl, ⟨nd, rfl⟩⟩; (try first | exact ⟨rfl, _, World.drewN_drewN _ _ _⟩ | exact ⟨rfl, _, Eq.trans (World.drewN_drewN _ _ _) (congrArg (World.drewN _) (Nat.add_assoc _ _ _))⟩)) | (go_at_call 135; (with_reducible refine (spec_l07Litres.calls ((rd_T148 l0 x3_1).f2) true _ A8.out).mono ?_); rintro e w' ⟨rfl, ⟨nd, rfl⟩⟩; (try first | exact ⟨rfl, _, World.drewN_drewN _ _ _⟩ | exact ⟨rfl, _, Eq.trans (World.drewN_drewN _ _ _) (congrArg (World.drewN _) (Nat.add_assoc _ _ _))⟩)) | (go_at_call 108; (with_reducible refine (spec_l00In.calls ((rd_T148 l0 x3_1).f3) 0 100 false _ A10.out).mono ?_); rintro e w' ⟨rfl, ⟨nd, rfl⟩⟩; (try first | exact ⟨rfl, _, World.drewN_drewN _ _ _⟩ | exact ⟨rfl, _, Eq.trans (World.drewN_drewN _ _ _) (congrArg (World.drewN _) (Nat.add_assoc _ _ _))⟩))))
                  go_ret
                  exact ⟨by first | rfl | (simp [errW_none, errW_some] <;> rfl) | (simp [*, errW_none, errW_some] <;> rfl) | (simp [Int.tdiv_eq_ediv_of_nonneg, *]; done), by repeat (first | (with_reducible first | exact HB.out | apply below_alloc | apply pw_below_drewN | apply below_drew1 | refine below_set ?_ GE854.out) | exact HB.out)⟩
              · replace c9 := Bool.eq_false_iff.mpr c9
                subst c9
                have H1 : (some false) = some r := by rw [if_neg (show ¬ (false = true) by decide)] at H; exact H
                clear H
                have H := H1
                clear H1
                obtain rfl := Option.some.inj H
                have p853 : 0 ≤ (x3_1 : Int) := of_decide_eq_true (by first | (with_reducible assumption) | assumption)
                have q853 : x3_1 < (l0.length : Int) := of_decide_eq_true (by first | (with_reducible assumption) | assumption)
                obtain ⟨ad853, e853, hx853_0, hx853_1, hx853_2, hx853_3⟩ := at_T148 HR0.out x3_1 p853 q853
                cases e853
                replace hx853_0 := (HB.out.cell (World.block_lt_of_cell? w _ hx853_0)).trans hx853_0
                replace hx853_1 := (HB.out.cell (World.block_lt_of_cell? w _ hx853_1)).trans hx853_1
                replace hx853_2 := (HB.out.cell (World.block_lt_of_cell? w _ hx853_2)).trans hx853_2
                replace hx853_3 := (HB.out.cell (World.block_lt_of_cell? w _ hx853_3)).trans hx853_3
                replace p853 := eq_true p853
                replace q853 := eq_true q853
                go_wp2_with (first | ((with_reducible refine gate_dst (N := 4) rfl ?_); refine box_event ?hg (N := 4) ?hd (cs := #[.int .i64 0, .int .i64 0, .int .i64 0, .int .i64 0]) (t := 148) ?hr ?_; (case hd => rfl); (case hg => rfl); (case hr => first | (go_simp; done) | (go_simp; rfl)); intro gb854 hg w25 hbox hb; have n0_ := Aside0.mk (below_step (by repeat (first | (with_reducible first | exact HB.out | apply below_alloc | apply pw_below_drewN | apply below_drew1) | exact HB.out)) hb); have n1_ := Aside0.mk (hbox); have n2_ := Aside0.mk ((by rw [hg]; exact (below_size (by repeat (first | (with_reducible first | exact HB.out | apply below_alloc | apply pw_below_drewN | apply below_drew1) | exact HB.out))) : w.heap.size ≤ gb854)); have n3_ := Aside0.mk ((by rw [hg]; exact (below_size (by repeat (first | (with_reducible first | exact HB.out | apply below_alloc | apply pw_below_drewN | apply below_drew1) | exact HB.out))) : w.heap.size ≤ gb854)); clear HB; have HB := n0_; have BK854 := n1_; have GW854 := n2_; have GE854 := n3_; clear n0_ n1_ n2_ n3_; clear hb hbox hg; have hcz26_0 : w25.cell? ⟨gb854, 0, none⟩ = some (.int .i64 0) := (blk_cell BK854.out 0).trans rfl; have hcz26_1 : w25.cell? ⟨gb854, 1, none⟩ = some (.int .i64 0) := (blk_cell BK854.out 1).trans rfl; have hcz26_2 : w25.cell? ⟨gb854, 2, none⟩ = some (.int .i64 0) := (blk_cell BK854.out 2).trans rfl; have hcz26_3 : w25.cell? ⟨gb854, 3, none⟩ = some (.int .i64 0) := (blk_cell BK854.out 3).trans rfl; have hfz26_0 := blk_frozen BK854.out 0; have hfz26_1 := blk_frozen BK854.out 1; have hfz26_2 := blk_frozen BK854.out 2; have hfz26_3 := blk_frozen BK854.out 3) | (go_at_call 108; (with_reducible refine (spec_l00In.calls ((rd_T148 l0 x3_1).f0) 0 60 true _ A4.out).mono ?_); rintro e w' ⟨rfl, ⟨nd, rfl⟩⟩; (try first | exact ⟨rfl, _, World.drewN_drewN _ _ _⟩ | exact ⟨rfl, _, Eq.trans (World.drewN_drewN _ _ _) (congrArg (World.drewN _) (Nat.add_assoc _ _ _))⟩)) | (go_at_call 135; (with_reducible refine (spec_l07Litres.calls ((rd_T148 l0 x3_1).f1) true _ A6.out).mono ?_); rintro e w' ⟨rfl, ⟨nd, rfl⟩⟩; (try first | exact ⟨rfl, _, World.drewN_drewN _ _ _⟩ | exact ⟨rfl, _, Eq.trans (World.drewN_drewN _ _ _) (congrArg (World.drewN _) (Nat.add_assoc _ _ _))⟩)) | (go_at_call 135; (with_reducible refine (spec_l07Litres.calls ((rd_T148 l0 x3_1).f2) false _ A8.out).mono ?_); rintro e w' ⟨rfl, ⟨nd, rfl⟩⟩; (try first | exact ⟨rfl, _, World.drewN_drewN _ _ _⟩ | exact ⟨rfl, _, Eq.trans (World.drewN_drewN _ _ _) (congrArg (World.drewN _) (Nat.add_assoc _ _ _))⟩)))
                repeat (go_quiet (first | ((with_reducible refine gate_dst (N := 4) rfl ?_); refine box_event ?hg (N := 4) ?hd (cs := #[.int .i64 0, .int .i64 0, .int .i64 0, .int .i64 0]) (t := 148) ?hr ?_; (case hd => rfl); (case hg => rfl); (case hr => first | (go_simp; done) | (go_simp; rfl)); intro gb854 hg w25 hbox hb; have n0_ := Aside0.mk (below_step (by repeat (first | (with_reducible first | exact HB.out | apply below_alloc | apply pw_below_drewN | apply below_drew1) | exact HB.out)) hb); have n1_ := Aside0.mk (hbox); have n2_ := Aside0.mk ((by rw [hg]; exact (below_size (by repeat (first | (with_reducible first | exact HB.out | apply below_alloc | apply pw_below_drewN | apply below_drew1) | exact HB.out))) : w.heap.size ≤ gb854)); have n3_ := Aside0.mk ((by rw [hg]; exact (below_size (by repeat (first | (with_reducible first | exact HB.out | apply below_alloc | apply pw_below_drewN | apply below_drew1) | exact HB.out))) : w.heap.size ≤ gb854)); clear HB; have HB := n0_; have BK854 := n1_; have GW854 := n2_; have GE854 := n3_; clear n0_ n1_ n2_ n3_; clear hb hbox hg; have hcz26_0 : w25.cell? ⟨gb854, 0, none⟩ = some (.int .i64 0) := (blk_cell BK854.out 0).trans rfl; have hcz26_1 : w25.cell? ⟨gb854, 1, none⟩ = some (.int .i64 0) := (blk_cell BK854.out 1).trans rfl; have hcz26_2 : w25.cell? ⟨gb854, 2, none⟩ = some (.int .i64 0) := (blk_cell BK854.out 2).trans rfl; have hcz26_3 : w25.cell? ⟨gb854, 3, none⟩ = some (.int .i64 0) := (blk_cell BK854.out 3).trans rfl; have hfz26_0 := blk_frozen BK854.out 0; have hfz26_1 := blk_frozen BK854.out 1; have hfz26_2 := blk_frozen BK854.out 2; have hfz26_3 := blk_frozen BK854.out 3) | (go_at_call 108; (with_reducible refine (spec_l00In.calls ((rd_T148 l0 x3_1).f0) 0 60 true _ A4.out).mono ?_); rintro e w' ⟨rfl, ⟨nd, rfl⟩⟩; (try first | exact ⟨rfl, _, World.drewN_drewN _ _ _⟩ | exact ⟨rfl, _, Eq.trans (World.drewN_drewN _ _ _) (congrArg (World.drewN _) (Nat.add_assoc _ _ _))⟩)) | (go_at_call 135; (with_reducible refine (spec_l07Litres.calls ((rd_T148 l0 x3_1).f1) true _ A6.out).mono ?_); rintro e w' ⟨rfl, ⟨nd, rfl⟩⟩; (try first | exact ⟨rfl, _, World.drewN_drewN _ _ _⟩ | exact ⟨rfl, _, Eq.trans (World.drewN_drewN _ _ _) (congrArg (World.drewN _) (Nat.add_assoc _ _ _))⟩)) | (go_at_call 135; (with_reducible refine (spec_l07Litres.calls ((rd_T148 l0 x3_1).f2) false _ A8.out).mono ?_); rintro e w' ⟨rfl, ⟨nd, rfl⟩⟩; (try first | exact ⟨rfl, _, World.drewN_drewN _ _ _⟩ | exact ⟨rfl, _, Eq.trans (World.drewN_drewN _ _ _) (congrArg (World.drewN _) (Nat.add_assoc _ _ _))⟩))); try go_wp2_with (first | ((with_reducible refine gate_dst (N := 4) rfl ?_); refine box_event ?hg (N := 4) ?hd (cs := #[.int .i64 0, .int .i64 0, .int .i64 0, .int .i64 0]) (t := 148) ?hr ?_; (case hd => rfl); (case hg => rfl); (case hr => first | (go_simp; done) | (go_simp; rfl)); intro gb854 hg w25 hbox hb; have n0_ := Aside0.mk (below_step (by repeat (first | (with_reducible first | exact HB.out | apply below_alloc | apply pw_below_drewN | apply below_drew1) | exact HB.out)) hb); have n1_ := Aside0.mk (hbox); have n2_ := Aside0.mk ((by rw [hg]; exact (below_size (by repeat (first | (with_reducible first | exact HB.out | apply below_alloc | apply pw_below_drewN | apply below_drew1) | exact HB.out))) : w.heap.size ≤ gb854)); have n3_ := Aside0.mk ((by rw [hg]; exact (below_size (by repeat (first | (with_reducible first | exact HB.out | apply below_alloc | apply pw_below_drewN | apply below_drew1) | exact HB.out))) : w.heap.size ≤ gb854)); clear HB; have HB := n0_; have BK854 := n1_; have GW854 := n2_; have GE854 := n3_; clear n0_ n1_ n2_ n3_; clear hb hbox hg; have hcz26_0 : w25.cell? ⟨gb854, 0, none⟩ = some (.int .i64 0) := (blk_cell BK854.out 0).trans rfl; have hcz26_1 : w25.cell? ⟨gb854, 1, none⟩ = some (.int .i64 0) := (blk_cell BK854.out 1).trans rfl; have hcz26_2 : w25.cell? ⟨gb854, 2, none⟩ = some (.int .i64 0) := (blk_cell BK854.out 2).trans rfl; have hcz26_3 : w25.cell? ⟨gb854, 3, none⟩ = some (.int .i64 0) := (blk_cell BK854.out 3).trans rfl; have hfz26_0 := blk_frozen BK854.out 0; have hfz26_1 := blk_frozen BK854.out 1; have hfz26_2 := blk_frozen BK854.out 2; have hfz26_3 := blk_frozen BK854.out 3) | (go_at_call 108; (with_reducible refine (spec_l00In.calls ((rd_T148 l0 x3_1).f0) 0 60 true _ A4.out).mono ?_); rintro e w' ⟨rfl, ⟨nd, rfl⟩⟩; (try first | exact ⟨rfl, _, World.drewN_drewN _ _ _⟩ | exact ⟨rfl, _, Eq.trans (World.drewN_drewN _ _ _) (congrArg (World.drewN _) (Nat.add_assoc _ _ _))⟩)) | (go_at_call 135; (with_reducible refine (spec_l07Litres.calls ((rd_T148 l0 x3_1).f1) true _ A6.out).mono ?_); rintro e w' ⟨rfl, ⟨nd, rfl⟩⟩; (try first | exact ⟨rfl, _, World.drewN_drewN _ _ _⟩ | exact ⟨rfl, _, Eq.trans (World.drewN_drewN _ _ _) (congrArg (World.drewN _) (Nat.add_assoc _ _ _))⟩)) | (go_at_call 135; (with_reducible refine (spec_l07Litres.calls ((rd_T148 l0 x3_1).f2) false _ A8.out).mono ?_); rintro e w' ⟨rfl, ⟨nd, rfl⟩⟩; (try first | exact ⟨rfl, _, World.drewN_drewN _ _ _⟩ | exact ⟨rfl, _, Eq.trans (World.drewN_drewN _ _ _) (congrArg (World.drewN _) (Nat.add_assoc _ _ _))⟩))))
                go_ret
                exact ⟨by first | rfl | (simp [errW_none, errW_some] <;> rfl) | (simp [*, errW_none, errW_some] <;> rfl) | (simp [Int.tdiv_eq_ediv_of_nonneg, *]; done), by repeat (first | (with_reducible first | exact HB.out | apply below_alloc | apply pw_below_drewN | apply below_drew1 | refine below_set ?_ GE854.out) | exact HB.out)⟩
            · replace c7 := Bool.eq_false_iff.mpr c7
              subst c7
              have H1 : (some false) = some r := by rw [if_neg (show ¬ (false = true) by decide)] at H; exact H
              clear H
              have H := H1
              clear H1
              obtain rfl := Option.some.inj H
              have p853 : 0 ≤ (x3_1 : Int) := of_decide_eq_true (by first | (with_reducible assumption) | assumption)
              have q853 : x3_1 < (l0.length : Int) := of_decide_eq_true (by first | (with_reducible assumption) | assumption)
              obtain ⟨ad853, e853, hx853_0, hx853_1, hx853_2, hx853_3⟩ := at_T148 HR0.out x3_1 p853 q853
              cases e853
              replace hx853_0 := (HB.out.cell (World.block_lt_of_cell? w _ hx853_0)).trans hx853_0
              replace hx853_1 := (HB.out.cell (World.block_lt_of_cell? w _ hx853_1)).trans hx853_1
              replace hx853_2 := (HB.out.cell (World.block_lt_of_cell? w _ hx853_2)).trans hx853_2
              replace hx853_3 := (HB.out.cell (World.block_lt_of_cell? w _ hx853_3)).trans hx853_3
              replace p853 := eq_true p853
              replace q853 := eq_true q853
              go_wp2_with (first | ((with_reducible refine gate_dst (N := 4) rfl ?_); refine box_event ?hg (N := 4) ?hd (cs := #[.int .i64 0, .int .i64 0, .int .i64 0, .int .i64 0]) (t := 148) ?hr ?_; (case hd => rfl); (case hg => rfl); (case hr => first | (go_simp; done) | (go_simp; rfl)); intro gb854 hg w27 hbox hb; have n0_ := Aside0.mk (below_step (by repeat (first | (with_reducible first | exact HB.out | apply below_alloc | apply pw_below_drewN | apply below_drew1) | exact HB.out)) hb); have n1_ := Aside0.mk (hbox); have n2_ := Aside0.mk ((by rw [hg]; exact (below_size (by repeat (first | (with_reducible first | exact HB.out | apply below_alloc | apply pw_below_drewN | apply below_drew1) | exact HB.out))) : w.heap.size ≤ gb854)); have n3_ := Aside0.mk ((by rw [hg]; exact (below_size (by repeat (first | (with_reducible first | exact HB.out | apply below_alloc | apply pw_below_drewN | apply below_drew1) | exact HB.out))) : w.heap.size ≤ gb854)); clear HB; have HB := n0_; have BK854 := n1_; have GW854 := n2_; have GE854 := n3_; clear n0_ n1_ n2_ n3_; clear hb hbox hg; have hcz28_0 : w27.cell? ⟨gb854, 0, none⟩ = some (.int .i64 0) := (blk_cell BK854.out 0).trans rfl; have hcz28_1 : w27.cell? ⟨gb854, 1, none⟩ = some (.int .i64 0) := (blk_cell BK854.out 1).trans rfl; have hcz28_2 : w27.cell? ⟨gb854, 2, none⟩ = some (.int .i64 0) := (blk_cell BK854.out 2).trans rfl; have hcz28_3 : w27.cell? ⟨gb854, 3, none⟩ = some (.int .i64 0) := (blk_cell BK854.out 3).trans rfl; have hfz28_0 := blk_frozen BK854.out 0; have hfz28_1 := blk_frozen BK854.out 1; have hfz28_2 := blk_frozen BK854.out 2; have hfz28_3 := blk_frozen BK854.out 3) | (go_at_call 108; (with_reducible refine (spec_l00In.calls ((rd_T148 l0 x3_1).f0) 0 60 true _ A4.out).mono ?_); rintro e w' ⟨rfl, ⟨nd, rfl⟩⟩; (try first | exact ⟨rfl, _, World.drewN_drewN _ _ _⟩ | exact ⟨rfl, _, Eq.trans (World.drewN_drewN _ _ _) (congrArg (World.drewN _) (Nat.add_assoc _ _ _))⟩)) | (go_at_call 135; (with_reducible refine (spec_l07Litres.calls ((rd_T148 l0 x3_1).f1) false _ A6.out).mono ?_); rintro e w' ⟨rfl, ⟨nd, rfl⟩⟩; (try first | exact ⟨rfl, _, World.drewN_drewN _ _ _⟩ | exact ⟨rfl, _, Eq.trans (World.drewN_drewN _ _ _) (congrArg (World.drewN _) (Nat.add_assoc _ _ _))⟩)))
              repeat (go_quiet (first | ((with_reducible refine gate_dst (N := 4) rfl ?_); refine box_event ?hg (N := 4) ?hd (cs := #[.int .i64 0, .int .i64 0, .int .i64 0, .int .i64 0]) (t := 148) ?hr ?_; (case hd => rfl); (case hg => rfl); (case hr => first | (go_simp; done) | (go_simp; rfl)); intro gb854 hg w27 hbox hb; have n0_ := Aside0.mk (below_step (by repeat (first | (with_reducible first | exact HB.out | apply below_alloc | apply pw_below_drewN | apply below_drew1) | exact HB.out)) hb); have n1_ := Aside0.mk (hbox); have n2_ := Aside0.mk ((by rw [hg]; exact (below_size (by repeat (first | (with_reducible first | exact HB.out | apply below_alloc | apply pw_below_drewN | apply below_drew1) | exact HB.out))) : w.heap.size ≤ gb854)); have n3_ := Aside0.mk ((by rw [hg]; exact (below_size (by repeat (first | (with_reducible first | exact HB.out | apply below_alloc | apply pw_below_drewN | apply below_drew1) | exact HB.out))) : w.heap.size ≤ gb854)); clear HB; have HB := n0_; have BK854 := n1_; have GW854 := n2_; have GE854 := n3_; clear n0_ n1_ n2_ n3_; clear hb hbox hg; have hcz28_0 : w27.cell? ⟨gb854, 0, none⟩ = some (.int .i64 0) := (blk_cell BK854.out 0).trans rfl; have hcz28_1 : w27.cell? ⟨gb854, 1, none⟩ = some (.int .i64 0) := (blk_cell BK854.out 1).trans rfl; have hcz28_2 : w27.cell? ⟨gb854, 2, none⟩ = some (.int .i64 0) := (blk_cell BK854.out 2).trans rfl; have hcz28_3 : w27.cell? ⟨gb854, 3, none⟩ = some (.int .i64 0) := (blk_cell BK854.out 3).trans rfl; have hfz28_0 := blk_frozen BK854.out 0; have hfz28_1 := blk_frozen BK854.out 1; have hfz28_2 := blk_frozen BK854.out 2; have hfz28_3 := blk_frozen BK854.out 3) | (go_at_call 108; (with_reducible refine (spec_l00In.calls ((rd_T148 l0 x3_1).f0) 0 60 true _ A4.out).mono ?_); rintro e w' ⟨rfl, ⟨nd, rfl⟩⟩; (try first | exact ⟨rfl, _, World.drewN_drewN _ _ _⟩ | exact ⟨rfl, _, Eq.trans (World.drewN_drewN _ _ _) (congrArg (World.drewN _) (Nat.add_assoc _ _ _))⟩)) | (go_at_call 135; (with_reducible refine (spec_l07Litres.calls ((rd_T148 l0 x3_1).f1) false _ A6.out).mono ?_); rintro e w' ⟨rfl, ⟨nd, rfl⟩⟩; (try first | exact ⟨rfl, _, World.drewN_drewN _ _ _⟩ | exact ⟨rfl, _, Eq.trans (World.drewN_drewN _ _ _) (congrArg (World.drewN _) (Nat.add_assoc _ _ _))⟩))); try go_wp2_with (first | ((with_reducible refine gate_dst (N := 4) rfl ?_); refine box_event ?hg (N := 4) ?hd (cs := #[.int .i64 0, .int .i64 0, .int .i64 0, .int .i64 0]) (t := 148) ?hr ?_; (case hd => rfl); (case hg => rfl); (case hr => first | (go_simp; done) | (go_simp; rfl)); intro gb854 hg w27 hbox hb; have n0_ := Aside0.mk (below_step (by repeat (first | (with_reducible first | exact HB.out | apply below_alloc | apply pw_below_drewN | apply below_drew1) | exact HB.out)) hb); have n1_ := Aside0.mk (hbox); have n2_ := Aside0.mk ((by rw [hg]; exact (below_size (by repeat (first | (with_reducible first | exact HB.out | apply below_alloc | apply pw_below_drewN | apply below_drew1) | exact HB.out))) : w.heap.size ≤ gb854)); have n3_ := Aside0.mk ((by rw [hg]; exact (below_size (by repeat (first | (with_reducible first | exact HB.out | apply below_alloc | apply pw_below_drewN | apply below_drew1) | exact HB.out))) : w.heap.size ≤ gb854)); clear HB; have HB := n0_; have BK854 := n1_; have GW854 := n2_; have GE854 := n3_; clear n0_ n1_ n2_ n3_; clear hb hbox hg; have hcz28_0 : w27.cell? ⟨gb854, 0, none⟩ = some (.int .i64 0) := (blk_cell BK854.out 0).trans rfl; have hcz28_1 : w27.cell? ⟨gb854, 1, none⟩ = some (.int .i64 0) := (blk_cell BK854.out 1).trans rfl; have hcz28_2 : w27.cell? ⟨gb854, 2, none⟩ = some (.int .i64 0) := (blk_cell BK854.out 2).trans rfl; have hcz28_3 : w27.cell? ⟨gb854, 3, none⟩ = some (.int .i64 0) := (blk_cell BK854.out 3).trans rfl; have hfz28_0 := blk_frozen BK854.out 0; have hfz28_1 := blk_frozen BK854.out 1; have hfz28_2 := blk_frozen BK854.out 2; have hfz28_3 := blk_frozen BK854.out 3) | (go_at_call 108; (with_reducible refine (spec_l00In.calls ((rd_T148 l0 x3_1).f0) 0 60 true _ A4.out).mono ?_); rintro e w' ⟨rfl, ⟨nd, rfl⟩⟩; (try first | exact ⟨rfl, _, World.drewN_drewN _ _ _⟩ | exact ⟨rfl, _, Eq.trans (World.drewN_drewN _ _ _) (congrArg (World.drewN _) (Nat.add_assoc _ _ _))⟩)) | (go_at_call 135; (with_reducible refine (spec_l07Litres.calls ((rd_T148 l0 x3_1).f1) false _ A6.out).mono ?_); rintro e w' ⟨rfl, ⟨nd, rfl⟩⟩; (try first | exact ⟨rfl, _, World.drewN_drewN _ _ _⟩ | exact ⟨rfl, _, Eq.trans (World.drewN_drewN _ _ _) (congrArg (World.drewN _) (Nat.add_assoc _ _ _))⟩))))
              go_ret
              exact ⟨by first | rfl | (simp [errW_none, errW_some] <;> rfl) | (simp [*, errW_none, errW_some] <;> rfl) | (simp [Int.tdiv_eq_ediv_of_nonneg, *]; done), by repeat (first | (with_reducible first | exact HB.out | apply below_alloc | apply pw_below_drewN | apply below_drew1 | refine below_set ?_ GE854.out) | exact HB.out)⟩
          · replace c5 := Bool.eq_false_iff.mpr c5
            subst c5
            have H1 : (some false) = some r := by rw [if_neg (show ¬ (false = true) by decide)] at H; exact H
            clear H
            have H := H1
            clear H1
            obtain rfl := Option.some.inj H
            have p853 : 0 ≤ (x3_1 : Int) := of_decide_eq_true (by first | (with_reducible assumption) | assumption)
            have q853 : x3_1 < (l0.length : Int) := of_decide_eq_true (by first | (with_reducible assumption) | assumption)
            obtain ⟨ad853, e853, hx853_0, hx853_1, hx853_2, hx853_3⟩ := at_T148 HR0.out x3_1 p853 q853
            cases e853
            replace hx853_0 := (HB.out.cell (World.block_lt_of_cell? w _ hx853_0)).trans hx853_0
            replace hx853_1 := (HB.out.cell (World.block_lt_of_cell? w _ hx853_1)).trans hx853_1
            replace hx853_2 := (HB.out.cell (World.block_lt_of_cell? w _ hx853_2)).trans hx853_2
            replace hx853_3 := (HB.out.cell (World.block_lt_of_cell? w _ hx853_3)).trans hx853_3
            replace p853 := eq_true p853
            replace q853 := eq_true q853
            go_wp2_with (first | ((with_reducible refine gate_dst (N := 4) rfl ?_); refine box_event ?hg (N := 4) ?hd (cs := #[.int .i64 0, .int .i64 0, .int .i64 0, .int .i64 0]) (t := 148) ?hr ?_; (case hd => rfl); (case hg => rfl); (case hr => first | (go_simp; done) | (go_simp; rfl)); intro gb854 hg w29 hbox hb; have n0_ := Aside0.mk (below_step (by repeat (first | (with_reducible first | exact HB.out | apply below_alloc | apply pw_below_drewN | apply below_drew1) | exact HB.out)) hb); have n1_ := Aside0.mk (hbox); have n2_ := Aside0.mk ((by rw [hg]; exact (below_size (by repeat (first | (with_reducible first | exact HB.out | apply below_alloc | apply pw_below_drewN | apply below_drew1) | exact HB.out))) : w.heap.size ≤ gb854)); have n3_ := Aside0.mk ((by rw [hg]; exact (below_size (by repeat (first | (with_reducible first | exact HB.out | apply below_alloc | apply pw_below_drewN | apply below_drew1) | exact HB.out))) : w.heap.size ≤ gb854)); clear HB; have HB := n0_; have BK854 := n1_; have GW854 := n2_; have GE854 := n3_; clear n0_ n1_ n2_ n3_; clear hb hbox hg; have hcz30_0 : w29.cell? ⟨gb854, 0, none⟩ = some (.int .i64 0) := (blk_cell BK854.out 0).trans rfl; have hcz30_1 : w29.cell? ⟨gb854, 1, none⟩ = some (.int .i64 0) := (blk_cell BK854.out 1).trans rfl; have hcz30_2 : w29.cell? ⟨gb854, 2, none⟩ = some (.int .i64 0) := (blk_cell BK854.out 2).trans rfl; have hcz30_3 : w29.cell? ⟨gb854, 3, none⟩ = some (.int .i64 0) := (blk_cell BK854.out 3).trans rfl; have hfz30_0 := blk_frozen BK854.out 0; have hfz30_1 := blk_frozen BK854.out 1; have hfz30_2 := blk_frozen BK854.out 2; have hfz30_3 := blk_frozen BK854.out 3) | (go_at_call 108; (with_reducible refine (spec_l00In.calls ((rd_T148 l0 x3_1).f0) 0 60 false _ A4.out).mono ?_); rintro e w' ⟨rfl, ⟨nd, rfl⟩⟩; (try first | exact ⟨rfl, _, World.drewN_drewN _ _ _⟩ | exact ⟨rfl, _, Eq.trans (World.drewN_drewN _ _ _) (congrArg (World.drewN _) (Nat.add_assoc _ _ _))⟩)))
            repeat (go_quiet (first | ((with_reducible refine gate_dst (N := 4) rfl ?_); refine box_event ?hg (N := 4) ?hd (cs := #[.int .i64 0, .int .i64 0, .int .i64 0, .int .i64 0]) (t := 148) ?hr ?_; (case hd => rfl); (case hg => rfl); (case hr => first | (go_simp; done) | (go_simp; rfl)); intro gb854 hg w29 hbox hb; have n0_ := Aside0.mk (below_step (by repeat (first | (with_reducible first | exact HB.out | apply below_alloc | apply pw_below_drewN | apply below_drew1) | exact HB.out)) hb); have n1_ := Aside0.mk (hbox); have n2_ := Aside0.mk ((by rw [hg]; exact (below_size (by repeat (first | (with_reducible first | exact HB.out | apply below_alloc | apply pw_below_drewN | apply below_drew1) | exact HB.out))) : w.heap.size ≤ gb854)); have n3_ := Aside0.mk ((by rw [hg]; exact (below_size (by repeat (first | (with_reducible first | exact HB.out | apply below_alloc | apply pw_below_drewN | apply below_drew1) | exact HB.out))) : w.heap.size ≤ gb854)); clear HB; have HB := n0_; have BK854 := n1_; have GW854 := n2_; have GE854 := n3_; clear n0_ n1_ n2_ n3_; clear hb hbox hg; have hcz30_0 : w29.cell? ⟨gb854, 0, none⟩ = some (.int .i64 0) := (blk_cell BK854.out 0).trans rfl; have hcz30_1 : w29.cell? ⟨gb854, 1, none⟩ = some (.int .i64 0) := (blk_cell BK854.out 1).trans rfl; have hcz30_2 : w29.cell? ⟨gb854, 2, none⟩ = some (.int .i64 0) := (blk_cell BK854.out 2).trans rfl; have hcz30_3 : w29.cell? ⟨gb854, 3, none⟩ = some (.int .i64 0) := (blk_cell BK854.out 3).trans rfl; have hfz30_0 := blk_frozen BK854.out 0; have hfz30_1 := blk_frozen BK854.out 1; have hfz30_2 := blk_frozen BK854.out 2; have hfz30_3 := blk_frozen BK854.out 3) | (go_at_call 108; (with_reducible refine (spec_l00In.calls ((rd_T148 l0 x3_1).f0) 0 60 false _ A4.out).mono ?_); rintro e w' ⟨rfl, ⟨nd, rfl⟩⟩; (try first | exact ⟨rfl, _, World.drewN_drewN _ _ _⟩ | exact ⟨rfl, _, Eq.trans (World.drewN_drewN _ _ _) (congrArg (World.drewN _) (Nat.add_assoc _ _ _))⟩))); try go_wp2_with (first | ((with_reducible refine gate_dst (N := 4) rfl ?_); refine box_event ?hg (N := 4) ?hd (cs := #[.int .i64 0, .int .i64 0, .int .i64 0, .int .i64 0]) (t := 148) ?hr ?_; (case hd => rfl); (case hg => rfl); (case hr => first | (go_simp; done) | (go_simp; rfl)); intro gb854 hg w29 hbox hb; have n0_ := Aside0.mk (below_step (by repeat (first | (with_reducible first | exact HB.out | apply below_alloc | apply pw_below_drewN | apply below_drew1) | exact HB.out)) hb); have n1_ := Aside0.mk (hbox); have n2_ := Aside0.mk ((by rw [hg]; exact (below_size (by repeat (first | (with_reducible first | exact HB.out | apply below_alloc | apply pw_below_drewN | apply below_drew1) | exact HB.out))) : w.heap.size ≤ gb854)); have n3_ := Aside0.mk ((by rw [hg]; exact (below_size (by repeat (first | (with_reducible first | exact HB.out | apply below_alloc | apply pw_below_drewN | apply below_drew1) | exact HB.out))) : w.heap.size ≤ gb854)); clear HB; have HB := n0_; have BK854 := n1_; have GW854 := n2_; have GE854 := n3_; clear n0_ n1_ n2_ n3_; clear hb hbox hg; have hcz30_0 : w29.cell? ⟨gb854, 0, none⟩ = some (.int .i64 0) := (blk_cell BK854.out 0).trans rfl; have hcz30_1 : w29.cell? ⟨gb854, 1, none⟩ = some (.int .i64 0) := (blk_cell BK854.out 1).trans rfl; have hcz30_2 : w29.cell? ⟨gb854, 2, none⟩ = some (.int .i64 0) := (blk_cell BK854.out 2).trans rfl; have hcz30_3 : w29.cell? ⟨gb854, 3, none⟩ = some (.int .i64 0) := (blk_cell BK854.out 3).trans rfl; have hfz30_0 := blk_frozen BK854.out 0; have hfz30_1 := blk_frozen BK854.out 1; have hfz30_2 := blk_frozen BK854.out 2; have hfz30_3 := blk_frozen BK854.out 3) | (go_at_call 108; (with_reducible refine (spec_l00In.calls ((rd_T148 l0 x3_1).f0) 0 60 false _ A4.out).mono ?_); rintro e w' ⟨rfl, ⟨nd, rfl⟩⟩; (try first | exact ⟨rfl, _, World.drewN_drewN _ _ _⟩ | exact ⟨rfl, _, Eq.trans (World.drewN_drewN _ _ _) (congrArg (World.drewN _) (Nat.add_assoc _ _ _))⟩))))
            go_ret
            exact ⟨by first | rfl | (simp [errW_none, errW_some] <;> rfl) | (simp [*, errW_none, errW_some] <;> rfl) | (simp [Int.tdiv_eq_ediv_of_nonneg, *]; done), by repeat (first | (with_reducible first | exact HB.out | apply below_alloc | apply pw_below_drewN | apply below_drew1 | refine below_set ?_ GE854.out) | exact HB.out)⟩
        · rw [if_neg c3] at H
          exact absurd H (by simp)
      · rw [if_neg c2] at H
        have c2b0 : decide (x3_1 < (l0.length : Int)) = false := decide_eq_false c2
        clear c2
        obtain rfl := Option.some.inj H
        go_wp2
        repeat (go_quiet (fail); try go_wp2)
        go_ret
        exact ⟨by first | rfl | (simp [errW_none, errW_some] <;> rfl) | (simp [*, errW_none, errW_some] <;> rfl) | (simp [Int.tdiv_eq_ediv_of_nonneg, *]; done), by repeat (first | (with_reducible first | exact HB.out | apply below_alloc | apply pw_below_drewN | apply below_drew1) | exact HB.out)⟩

/-! ### spec_l07Set: function 113 -/
def spec_l07Set.f (a0_0 : Int) (a0_1 : Int) (a0_2 : Int) (a0_3 : Int) : Option (Int) := some (wrap64 (Int.tdiv (wrap64 (a0_2 * (wrap64 (100 - a0_3)))) 100))
set_option maxHeartbeats 8000000 in
set_option maxRecDepth 100000 in
theorem spec_l07Set.calls (a0_0 : Int) (a0_1 : Int) (a0_2 : Int) (a0_3 : Int) (r : Int) (w : World) (h : spec_l07Set.f a0_0 a0_1 a0_2 a0_3 = some r) :
    Calls Try.prog 113 #[.agg #[.int .i64 a0_0, .int .i64 a0_1, .int .i64 a0_2, .int .i64 a0_3]] w fun e w' => e = .returned (.int .i64 r) ∧ Below w.heap.size w w' := by
  have hu148 := Try.underlying148
  have HB := Aside0.mk (Below.refl w.heap.size w)
  have H : (some (wrap64 (Int.tdiv (wrap64 (a0_2 * (wrap64 (100 - a0_3)))) 100))) = some r := h
  clear h
  obtain rfl := Option.some.inj H
  go_enter Try.func113, Try.ntmps113
  go_wp2_with (first | ((with_reducible refine gate_dst (N := 1) rfl ?_); refine box_event ?hg (N := 1) ?hd (cs := #[.int .i64 a0_0, .int .i64 a0_1, .int .i64 a0_2, .int .i64 a0_3]) (t := 148) ?hr ?_; (case hd => rfl); (case hg => rfl); (case hr => first | (go_simp; done) | (go_simp; rfl)); intro gb860 hg w2 hbox hb; have n0_ := Aside0.mk (below_step (by repeat (first | (with_reducible first | exact HB.out | apply below_alloc | apply pw_below_drewN | apply below_drew1) | exact HB.out)) hb); have n1_ := Aside0.mk (hbox); have n2_ := Aside0.mk ((by rw [hg]; exact (below_size (by repeat (first | (with_reducible first | exact HB.out | apply below_alloc | apply pw_below_drewN | apply below_drew1) | exact HB.out))) : w.heap.size ≤ gb860)); have n3_ := Aside0.mk ((by rw [hg]; exact (below_size (by repeat (first | (with_reducible first | exact HB.out | apply below_alloc | apply pw_below_drewN | apply below_drew1) | exact HB.out))) : w.heap.size ≤ gb860)); clear HB; have HB := n0_; have BK860 := n1_; have GW860 := n2_; have GE860 := n3_; clear n0_ n1_ n2_ n3_; clear hb hbox hg; have hcz3_0 : w2.cell? ⟨gb860, 0, none⟩ = some (.int .i64 a0_0) := (blk_cell BK860.out 0).trans rfl; have hcz3_1 : w2.cell? ⟨gb860, 1, none⟩ = some (.int .i64 a0_1) := (blk_cell BK860.out 1).trans rfl; have hcz3_2 : w2.cell? ⟨gb860, 2, none⟩ = some (.int .i64 a0_2) := (blk_cell BK860.out 2).trans rfl; have hcz3_3 : w2.cell? ⟨gb860, 3, none⟩ = some (.int .i64 a0_3) := (blk_cell BK860.out 3).trans rfl; have hfz3_0 := blk_frozen BK860.out 0; have hfz3_1 := blk_frozen BK860.out 1; have hfz3_2 := blk_frozen BK860.out 2; have hfz3_3 := blk_frozen BK860.out 3))
  go_ret
  exact ⟨by first | rfl | (simp [errW_none, errW_some] <;> rfl) | (simp [*, errW_none, errW_some] <;> rfl) | (simp [Int.tdiv_eq_ediv_of_nonneg, *]; done), by repeat (first | (with_reducible first | exact HB.out | apply below_alloc | apply pw_below_drewN | apply below_drew1 | refine below_set ?_ GE860.out) | exact HB.out)⟩

/-! ### spec_LossesOf: function 56 -/
mutual
def spec_LossesOf.j0 : Nat → List (S148) → Int → Bool → Option ((List (S107)) × Bool)
  | 0, _, _, _ => none
  | k + 1, x0, x1, x15 => if x15 = true then (some (([] : List (S107)), false)) else (spec_LossesOf.l0 k x0 x1 (([] : List (S107))) 0)
def spec_LossesOf.l0 : Nat → List (S148) → Int → List (S107) → Int → Option ((List (S107)) × Bool)
  | 0, _, _, _, _ => none
  | k + 1, x0, x1, x6, x7 => if x7 < (x0.length : Int) then (if 0 ≤ x7 then ((spec_l07Set.f ((rd_T148 x0 x7).f0) ((rd_T148 x0 x7).f1) ((rd_T148 x0 x7).f2) ((rd_T148 x0 x7).f3)).bind fun t869 => ((spec_l00Max.f 0 (wrap64 (((rd_T148 x0 x7).f1) - t869))).bind fun t870 => (if x6.length < 5864062014805 then (spec_LossesOf.l0 k x0 x1 (x6 ++ [(⟨(rd_T148 x0 x7).f0, t870, x1⟩ : S107)]) (wrap64 (x7 + 1))) else (none)))) else (none)) else ((spec_l07Losses.f k x6).bind fun t874 => (if t874 = true then (some (x6, true)) else (some (([] : List (S107)), false))))
end
def spec_LossesOf.f (k : Nat) (l0 : List (S148)) (a1 : Int) : Option ((List (S107)) × Bool) := (spec_l07Grouts.f k l0).bind fun t861 => (if t861 = true then ((spec_l00In.f a1 0 5).bind fun t862 => (spec_LossesOf.j0 k l0 a1 (!t862))) else (spec_LossesOf.j0 k l0 a1 true))
theorem spec_LossesOf.mono_l : ∀ k, (∀ y0 y1 y2, LeO (spec_LossesOf.j0 k y0 y1 y2) (spec_LossesOf.j0 (k + 1) y0 y1 y2)) ∧ (∀ y0 y1 y2 y3, LeO (spec_LossesOf.l0 k y0 y1 y2 y3) (spec_LossesOf.l0 (k + 1) y0 y1 y2 y3))
  | 0 => ⟨fun _ _ _ r h => by simp [spec_LossesOf.j0] at h, fun _ _ _ _ r h => by simp [spec_LossesOf.l0] at h⟩
  | k + 1 => by
    obtain ⟨ih0, ih1⟩ := spec_LossesOf.mono_l k
    refine ⟨?_, ?_⟩
    · intro y0 y1 y2
      unfold spec_LossesOf.j0
      repeat' first
      | (with_reducible exact ih0 _ _ _)
      | (with_reducible exact ih1 _ _ _ _)
      | (with_reducible exact spec_l07Grouts.mono _ _)
      | (with_reducible exact spec_l07Losses.mono _ _)
      | (with_reducible exact LeO.refl _)
      | (with_reducible exact LeO.none _)
      | (with_reducible refine LeO.ite ?_ ?_)
      | (with_reducible refine LeO.bind ?_ (fun _ => ?_))
      | exact ih0 _ _ _
      | exact ih1 _ _ _ _
      | exact spec_l07Grouts.mono _ _
      | exact spec_l07Losses.mono _ _
      | exact LeO.none _
      | refine LeO.ite ?_ ?_
      | refine LeO.bind ?_ (fun _ => ?_)
    · intro y0 y1 y2 y3
      unfold spec_LossesOf.l0
      repeat' first
      | (with_reducible exact ih0 _ _ _)
      | (with_reducible exact ih1 _ _ _ _)
      | (with_reducible exact spec_l07Grouts.mono _ _)
      | (with_reducible exact spec_l07Losses.mono _ _)
      | (with_reducible exact LeO.refl _)
      | (with_reducible exact LeO.none _)
      | (with_reducible refine LeO.ite ?_ ?_)
      | (with_reducible refine LeO.bind ?_ (fun _ => ?_))
      | exact ih0 _ _ _
      | exact ih1 _ _ _ _
      | exact spec_l07Grouts.mono _ _
      | exact spec_l07Losses.mono _ _
      | exact LeO.none _
      | refine LeO.ite ?_ ?_
      | refine LeO.bind ?_ (fun _ => ?_)
theorem spec_LossesOf.mono : ∀ a0 a1 k, LeO (spec_LossesOf.f k a0 a1) (spec_LossesOf.f (k + 1) a0 a1) := by
  intro a0 a1 k
  obtain ⟨ih0, ih1⟩ := spec_LossesOf.mono_l k
  unfold spec_LossesOf.f
  repeat' first
      | (with_reducible exact ih0 _ _ _)
      | (with_reducible exact ih1 _ _ _ _)
      | (with_reducible exact spec_l07Grouts.mono _ _)
      | (with_reducible exact spec_l07Losses.mono _ _)
      | (with_reducible exact LeO.refl _)
      | (with_reducible exact LeO.none _)
      | (with_reducible refine LeO.ite ?_ ?_)
      | (with_reducible refine LeO.bind ?_ (fun _ => ?_))
      | exact ih0 _ _ _
      | exact ih1 _ _ _ _
      | exact spec_l07Grouts.mono _ _
      | exact spec_l07Losses.mono _ _
      | exact LeO.none _
      | refine LeO.ite ?_ ?_
      | refine LeO.bind ?_ (fun _ => ?_)
def spec_LossesOf.T7 : Bool × List (List Nat × List Nat) := (true, [([], []), ([], []), ([], []), ([1, 2], [1, 2]), ([3], [3]), ([4], [4]), ([], []), ([], []), ([6, 7], [6, 7]), ([8], [8]), ([9], [9]), ([], []), ([], []), ([11, 12], [11, 12]), ([13], [13]), ([14], [14]), ([10, 15], [10, 15]), ([16, 15], [16]), ([], []), ([5, 17, 18], [5, 17, 18]), ([19], [19]), ([0, 20, 17], [0, 20]), ([21, 21, 0, 1, 2, 3, 4, 5, 6, 7, 8, 9, 10, 11, 12, 13, 14, 15, 16, 17, 18, 19, 20, 21], [0, 21])])
def spec_LossesOf.B7 : List Nat := [0, 0, 0, 6, 14, 30, 0, 0, 192, 448, 960, 0, 0, 6144, 14336, 30720, 65472, 131008, 0, 524286, 1048574, 2097151, 4194303]
theorem spec_LossesOf.tab7 : rtab .any (opsOf Try.f56 7) = spec_LossesOf.T7 := by kernel_rfl
theorem spec_LossesOf.bits7 : waitsOk spec_LossesOf.T7.2 spec_LossesOf.B7 = true := by kernel_rfl
set_option maxHeartbeats 8000000 in
set_option maxRecDepth 100000 in
theorem spec_LossesOf.calls (k : Nat) (A0 : Option Addr) (c0 : Nat) (l0 : List (S148)) (a1 : Int) (r1 : List (S107)) (r2 : Bool) (w : World) (hr0 : Kd.C k148 w A0 l0.length l0) (hc0 : l0.length ≤ c0) (h : spec_LossesOf.f k l0 a1 = some (r1, r2)) :
    Calls Try.prog 56 #[.slice A0 l0.length c0, .int .i64 a1] w fun e w' => ∃ v0_ : Value, e = .returned (.tuple #[v0_, .bool r2]) ∧ Kd.R k107 107 w' w.heap.size (fun _ => True) v0_ r1 ∧ Below w.heap.size w w' := by
  have hu148 := Try.underlying148
  have hu107 := Try.underlying107
  have HR0 := Aside0.mk hr0
  have HC0 := Aside0.mk hc0
  clear hr0 hc0
  have HB := Aside0.mk (Below.refl w.heap.size w)
  have H : ((spec_l07Grouts.f k l0).bind fun t861 => (if t861 = true then ((spec_l00In.f a1 0 5).bind fun t862 => (spec_LossesOf.j0 k l0 a1 (!t862))) else (spec_LossesOf.j0 k l0 a1 true))) = some (r1, r2) := h
  clear h
  have HC3 := Aside0.mk H
  clear H
  go_enter Try.func56, Try.ntmps56
  go_upto_region 1 with (fail)
  go_cut [15] (fun v15 wc => ∃ (kq : Nat) (x15_2 : Bool), v15 = .bool x15_2 ∧ Aside0 (spec_LossesOf.j0 kq l0 a1 x15_2 = some (r1, r2)) ∧ Aside0 (kq ≤ k) ∧ Aside0 (Below w.heap.size w wc))
  case first =>
    have H := HC3.out
    clear HC3
    replace H := Option.bind_eq_some_iff.mp H
    obtain ⟨t861, A40, H⟩ := H
    replace H : (if t861 = true then ((spec_l00In.f a1 0 5).bind fun t862 => (spec_LossesOf.j0 k l0 a1 (!t862))) else (spec_LossesOf.j0 k l0 a1 true)) = some (r1, r2) := H
    have A4 := Aside0.mk A40
    clear A40
    by_cases c5 : t861 = true
    · subst c5
      have H1 : ((spec_l00In.f a1 0 5).bind fun t862 => (spec_LossesOf.j0 k l0 a1 (!t862))) = some (r1, r2) := by rw [if_pos rfl] at H; exact H
      clear H
      have H := H1
      clear H1
      replace H := Option.bind_eq_some_iff.mp H
      obtain ⟨t862, A60, H⟩ := H
      replace H : (spec_LossesOf.j0 k l0 a1 (!t862)) = some (r1, r2) := H
      have A6 := Aside0.mk A60
      clear A60
      have H' := Aside0.mk H
      clear H
      go_wp2_with (first | ((with_reducible refine gate_callee (f := 111) rfl ?_); refine goesL_ (some 9) rfl rfl Try.func111 (by kernel_rfl) rfl #[.slice A0 l0.length c0] rfl (by (try simp only [List.map_toArray, List.map_cons, List.map_nil]); first | done | rfl | (simp only [List.length_drop, List.length_take]; rfl)) ?_; (with_reducible refine (spec_l07Grouts.calls k _ _ l0 true _ ?side1 ?side2 A4.out).mono ?_); (case side1 => repeat (first | exact (Kd.C_below HR0.out HB.out) | (with_reducible refine Kd.C_alloc ?_ _) | (with_reducible refine Kd.C_drewN ?_ _) | (with_reducible refine Kd.C_drew ?_))); (case side2 => exact HC0.out); rintro e w7 ⟨rfl, hb⟩; refine ⟨_, rfl, ?_⟩; have n0_ := Aside0.mk (below_step (by repeat (first | (with_reducible first | exact HB.out | apply below_alloc | apply pw_below_drewN | apply below_drew1) | exact HB.out)) hb); clear HB; have HB := n0_; clear n0_; (try clear hb); (try clear hb2); (try clear hk); (try clear hi)) | (go_at_call 108; (with_reducible refine (spec_l00In.calls a1 0 5 t862 _ A6.out).mono ?_); rintro e w' ⟨rfl, ⟨nd, rfl⟩⟩))
      go_meet
      case rel => exact ⟨_, (!t862), (by first | rfl | (simp; done) | (simp [*]; done) | (simp [Int.tdiv_eq_ediv_of_nonneg, *]; done)), H', ⟨by first | omega | exact Nat.le_refl _⟩, ⟨by repeat (first | (with_reducible first | exact HB.out | apply below_alloc | apply pw_below_drewN | apply below_drew1) | exact HB.out)⟩⟩
    · replace c5 := Bool.eq_false_iff.mpr c5
      subst c5
      have H1 : (spec_LossesOf.j0 k l0 a1 true) = some (r1, r2) := by rw [if_neg (show ¬ (false = true) by decide)] at H; exact H
      clear H
      have H := H1
      clear H1
      have H' := Aside0.mk H
      clear H
      go_wp2_with (first | ((with_reducible refine gate_callee (f := 111) rfl ?_); refine goesL_ (some 9) rfl rfl Try.func111 (by kernel_rfl) rfl #[.slice A0 l0.length c0] rfl (by (try simp only [List.map_toArray, List.map_cons, List.map_nil]); first | done | rfl | (simp only [List.length_drop, List.length_take]; rfl)) ?_; (with_reducible refine (spec_l07Grouts.calls k _ _ l0 false _ ?side1 ?side2 A4.out).mono ?_); (case side1 => repeat (first | exact (Kd.C_below HR0.out HB.out) | (with_reducible refine Kd.C_alloc ?_ _) | (with_reducible refine Kd.C_drewN ?_ _) | (with_reducible refine Kd.C_drew ?_))); (case side2 => exact HC0.out); rintro e w8 ⟨rfl, hb⟩; refine ⟨_, rfl, ?_⟩; have n0_ := Aside0.mk (below_step (by repeat (first | (with_reducible first | exact HB.out | apply below_alloc | apply pw_below_drewN | apply below_drew1) | exact HB.out)) hb); clear HB; have HB := n0_; clear n0_; (try clear hb); (try clear hb2); (try clear hk); (try clear hi)))
      go_meet
      case rel => exact ⟨_, (true), (by first | rfl | (simp; done) | (simp [*]; done) | (simp [Int.tdiv_eq_ediv_of_nonneg, *]; done)), H', ⟨by first | omega | exact Nat.le_refl _⟩, ⟨by repeat (first | (with_reducible first | exact HB.out | apply below_alloc | apply pw_below_drewN | apply below_drew1) | exact HB.out)⟩⟩
  case rest =>
    clear HC3
    try clear c1
    try clear p2
    try clear c5
    obtain ⟨kq, x15_2, rfl, HA, HJ2, HB⟩ := hcut
    cases kq with
    | zero => exact absurd HA.out (by simp [spec_LossesOf.j0])
    | succ kj2 =>
      have H := HA.out
      clear HA
      simp only [spec_LossesOf.j0] at H
      by_cases c9 : x15_2 = true
      · subst c9
        have H1 : (some (([] : List (S107)), false)) = some (r1, r2) := by rw [if_pos rfl] at H; exact H
        clear H
        have H := H1
        clear H1
        simp only [Option.some.injEq, Prod.mk.injEq] at H
        obtain ⟨rfl, rfl⟩ := H
        go_wp2
        go_ret2
        exact ⟨_, by first | rfl | (simp [errW_none, errW_some] <;> rfl) | (simp [*, errW_none, errW_some] <;> rfl) | (simp [Int.tdiv_eq_ediv_of_nonneg, *]; done), by first | exact Kd.R_nil _ _ _ _ _ | exact Kd.N_nil _ _ _ _ _ | exact Kd.V_nil _ _ _ _ _ | exact Kd.Q_nil _ _ _ _ _ | exact Kd.S_nil _ _ _ _ _, by repeat (first | (with_reducible first | exact HB.out | apply below_alloc | apply pw_below_drewN | apply below_drew1) | exact HB.out)⟩
      · replace c9 := Bool.eq_false_iff.mpr c9
        subst c9
        have H1 : (spec_LossesOf.l0 kj2 l0 a1 (([] : List (S107))) 0) = some (r1, r2) := by rw [if_neg (show ¬ (false = true) by decide)] at H; exact H
        clear H
        have H := H1
        clear H1
        obtain ⟨y863, hy863⟩ : ∃ y_ : List (S107), y_ = (([] : List (S107))) := ⟨_, rfl⟩
        replace H : (spec_LossesOf.l0 kj2 l0 a1 y863 0) = some (r1, r2) := by first | (rw [hy863]; with_reducible exact H) | (have H2_ := (Option.bind_some _ _).symm.trans H; rw [hy863]; with_reducible exact H2_) | (have H2_ := (Option.bind_some _ _).symm.trans H; with_reducible exact H2_) | with_reducible exact H | (rw [hy863]; exact H) | exact H
        have Ny863 := Aside0.mk hy863
        clear hy863
        have H' := Aside0.mk H
        clear H
        go_wp2_with (first | ((with_reducible refine gate_dst (N := 16) rfl ?_); refine Kd.R_lit k107 _ 107 ?hg (N := 16) ?hd (xs := ([] : List (S107))) (inner := []) (ok := fun _ => True) (okp := fun _ => True) ?hr ?hp (fun _ hk => hk) trivial (Below.refl _ _) (Nat.le_refl _) (by simp) ?_; (case hd => rfl); (case hg => rfl); (case hr => first | (go_simp; done) | (go_simp; rfl)); (case hp => exact (Reps.none _ _)); intro v864 w10 ho11 hb hg_ hnew_; clear hg_ hnew_; (first | rw [← Ny863.out] at ho11 | (simp only [Int.reduceToNat] at ho11; rw [← Ny863.out] at ho11)); have n0_ := Aside0.mk (Kd.R_lower ho11 (below_size (by repeat (first | (with_reducible first | exact HB.out | apply below_alloc | apply pw_below_drewN | apply below_drew1) | exact HB.out)))); have n1_ := Aside0.mk (below_step (by repeat (first | (with_reducible first | exact HB.out | apply below_alloc | apply pw_below_drewN | apply below_drew1) | exact HB.out)) hb); clear HB; have HO865 := n0_; have HB := n1_; clear n0_ n1_; clear hb ho11))
        go_loopg [6, 7] kj2 (fun kq v6 v7 w' => ∃ (x6_2 : List (S107)) (x7_2 : Int), v7 = .int .i64 x7_2 ∧ Aside0 (spec_LossesOf.l0 kq l0 a1 x6_2 x7_2 = some (r1, r2)) ∧ Aside0 (kq ≤ kj2) ∧ Aside0 (Kd.R k107 107 w' w.heap.size (fun _ => True) v6 x6_2) ∧ Aside0 (Below w.heap.size w w'))
        case atStart => exact ⟨(y863), (0), (by first | rfl | (simp; done) | (simp [*]; done) | (simp [Int.tdiv_eq_ediv_of_nonneg, *]; done)), H', ⟨Nat.le_refl _⟩, ⟨by (with_reducible repeat (first | apply Kd.R_alloc | apply Kd.R_drewN | apply Kd.R_drew)); exact HO865.out⟩, ⟨by repeat (first | (with_reducible first | exact HB.out | apply below_alloc | apply pw_below_drewN | apply below_drew1) | exact HB.out)⟩⟩
        case round =>
          clear H'
          try clear c1
          try clear p2
          try clear c5
          try clear c9
          try clear c11
          try clear p2
          obtain ⟨x6_2, x7_2, rfl, HA, HK2, HO_6, HB⟩ := hrel
          cases gk with
          | zero => exact absurd HA.out (by simp [spec_LossesOf.l0])
          | succ k2 =>
            have H := HA.out
            clear HA
            simp only [spec_LossesOf.l0] at H
            by_cases c12 : x7_2 < (l0.length : Int)
            · rw [if_pos c12] at H
              have c12b0 : decide (x7_2 < (l0.length : Int)) = true := decide_eq_true c12
              clear c12
              by_cases c13 : 0 ≤ x7_2
              · rw [if_pos c13] at H
                have c13b0 : decide (0 ≤ x7_2) = true := decide_eq_true c13
                clear c13
                replace H := Option.bind_eq_some_iff.mp H
                obtain ⟨t869, A140, H⟩ := H
                replace H : ((spec_l00Max.f 0 (wrap64 (((rd_T148 l0 x7_2).f1) - t869))).bind fun t870 => (if x6_2.length < 5864062014805 then (spec_LossesOf.l0 k2 l0 a1 (x6_2 ++ [(⟨(rd_T148 l0 x7_2).f0, t870, a1⟩ : S107)]) (wrap64 (x7_2 + 1))) else (none))) = some (r1, r2) := H
                have A14 := Aside0.mk A140
                clear A140
                replace H := Option.bind_eq_some_iff.mp H
                obtain ⟨t870, A150, H⟩ := H
                replace H : (if x6_2.length < 5864062014805 then (spec_LossesOf.l0 k2 l0 a1 (x6_2 ++ [(⟨(rd_T148 l0 x7_2).f0, t870, a1⟩ : S107)]) (wrap64 (x7_2 + 1))) else (none)) = some (r1, r2) := H
                have A15 := Aside0.mk A150
                clear A150
                by_cases c16 : x6_2.length < 5864062014805
                · rw [if_pos c16] at H
                  have LMc16 := Aside0.mk c16
                  clear c16
                  obtain ⟨y871, hy871⟩ : ∃ y_ : List (S107), y_ = (x6_2 ++ [(⟨(rd_T148 l0 x7_2).f0, t870, a1⟩ : S107)]) := ⟨_, rfl⟩
                  replace H : (spec_LossesOf.l0 k2 l0 a1 y871 (wrap64 (x7_2 + 1))) = some (r1, r2) := by first | (rw [hy871]; with_reducible exact H) | (have H2_ := (Option.bind_some _ _).symm.trans H; rw [hy871]; with_reducible exact H2_) | (have H2_ := (Option.bind_some _ _).symm.trans H; with_reducible exact H2_) | with_reducible exact H | (rw [hy871]; exact H) | exact H
                  have Ny871 := Aside0.mk hy871
                  clear hy871
                  have H' := Aside0.mk H
                  clear H
                  try go_wp2
                  have n0_ := Aside0.mk (Kd.R_drew HO_6.out)
                  have n1_ := Aside0.mk (below_drew1 HB.out)
                  clear HO_6
                  clear HB
                  have HO_6 := n0_
                  have HB := n1_
                  clear n0_ n1_
                  have p866 : 0 ≤ (x7_2 : Int) := of_decide_eq_true (by first | (with_reducible assumption) | assumption)
                  have q866 : x7_2 < (l0.length : Int) := of_decide_eq_true (by first | (with_reducible assumption) | assumption)
                  obtain ⟨ad866, e866, hx866_0, hx866_1, hx866_2, hx866_3⟩ := at_T148 HR0.out x7_2 p866 q866
                  have hw866_3 := hx866_3
                  have hw866_2 := hx866_2
                  have hw866_1 := hx866_1
                  have hw866_0 := hx866_0
                  cases e866
                  replace hx866_0 := (HB.out.cell (World.block_lt_of_cell? w _ hx866_0)).trans hx866_0
                  replace hx866_1 := (HB.out.cell (World.block_lt_of_cell? w _ hx866_1)).trans hx866_1
                  replace hx866_2 := (HB.out.cell (World.block_lt_of_cell? w _ hx866_2)).trans hx866_2
                  replace hx866_3 := (HB.out.cell (World.block_lt_of_cell? w _ hx866_3)).trans hx866_3
                  replace p866 := eq_true p866
                  replace q866 := eq_true q866
                  have p867 : 0 ≤ (x7_2 : Int) := of_decide_eq_true (by first | (with_reducible assumption) | assumption)
                  have q867 : x7_2 < (l0.length : Int) := of_decide_eq_true (by first | (with_reducible assumption) | assumption)
                  obtain ⟨ad867, e867, hx867_0, hx867_1, hx867_2, hx867_3⟩ := at_T148 HR0.out x7_2 p867 q867
                  have hw867_3 := hx867_3
                  have hw867_2 := hx867_2
                  have hw867_1 := hx867_1
                  have hw867_0 := hx867_0
                  obtain rfl : ad866 = ad867 := (by injection e867)
                  replace hx867_0 := (HB.out.cell (World.block_lt_of_cell? w _ hx867_0)).trans hx867_0
                  replace hx867_1 := (HB.out.cell (World.block_lt_of_cell? w _ hx867_1)).trans hx867_1
                  replace hx867_2 := (HB.out.cell (World.block_lt_of_cell? w _ hx867_2)).trans hx867_2
                  replace hx867_3 := (HB.out.cell (World.block_lt_of_cell? w _ hx867_3)).trans hx867_3
                  replace p867 := eq_true p867
                  replace q867 := eq_true q867
                  have p868 : 0 ≤ (x7_2 : Int) := of_decide_eq_true (by first | (with_reducible assumption) | assumption)
                  have q868 : x7_2 < (l0.length : Int) := of_decide_eq_true (by first | (with_reducible assumption) | assumption)
                  obtain ⟨ad868, e868, hx868_0, hx868_1, hx868_2, hx868_3⟩ := at_T148 HR0.out x7_2 p868 q868
                  have hw868_3 := hx868_3
                  have hw868_2 := hx868_2
                  have hw868_1 := hx868_1
                  have hw868_0 := hx868_0
                  obtain rfl : ad866 = ad868 := (by injection e868)
                  replace hx868_0 := (HB.out.cell (World.block_lt_of_cell? w _ hx868_0)).trans hx868_0
                  replace hx868_1 := (HB.out.cell (World.block_lt_of_cell? w _ hx868_1)).trans hx868_1
                  replace hx868_2 := (HB.out.cell (World.block_lt_of_cell? w _ hx868_2)).trans hx868_2
                  replace hx868_3 := (HB.out.cell (World.block_lt_of_cell? w _ hx868_3)).trans hx868_3
                  replace p868 := eq_true p868
                  replace q868 := eq_true q868
                  refine start_ (n := 23) (S := fun w' => w'.cell? (ad866.add ((x7_2).toNat * 4)) = some (.int .i64 ((rd_T148 l0 x7_2).f0)) ∧ w'.cell? ⟨(ad866.add ((x7_2).toNat * 4)).block, (ad866.add ((x7_2).toNat * 4)).off + 1, none⟩ = some (.int .i64 ((rd_T148 l0 x7_2).f1)) ∧ w'.cell? ⟨(ad866.add ((x7_2).toNat * 4)).block, (ad866.add ((x7_2).toNat * 4)).off + 2, none⟩ = some (.int .i64 ((rd_T148 l0 x7_2).f2)) ∧ w'.cell? ⟨(ad866.add ((x7_2).toNat * 4)).block, (ad866.add ((x7_2).toNat * 4)).off + 3, none⟩ = some (.int .i64 ((rd_T148 l0 x7_2).f3)) ∧ w'.cell? (ad866.add ((x7_2).toNat * 4)) = some (.int .i64 ((rd_T148 l0 x7_2).f0)) ∧ w'.cell? ⟨(ad866.add ((x7_2).toNat * 4)).block, (ad866.add ((x7_2).toNat * 4)).off + 1, none⟩ = some (.int .i64 ((rd_T148 l0 x7_2).f1)) ∧ w'.cell? ⟨(ad866.add ((x7_2).toNat * 4)).block, (ad866.add ((x7_2).toNat * 4)).off + 2, none⟩ = some (.int .i64 ((rd_T148 l0 x7_2).f2)) ∧ w'.cell? ⟨(ad866.add ((x7_2).toNat * 4)).block, (ad866.add ((x7_2).toNat * 4)).off + 3, none⟩ = some (.int .i64 ((rd_T148 l0 x7_2).f3)) ∧ w'.cell? (ad866.add ((x7_2).toNat * 4)) = some (.int .i64 ((rd_T148 l0 x7_2).f0)) ∧ w'.cell? ⟨(ad866.add ((x7_2).toNat * 4)).block, (ad866.add ((x7_2).toNat * 4)).off + 1, none⟩ = some (.int .i64 ((rd_T148 l0 x7_2).f1)) ∧ w'.cell? ⟨(ad866.add ((x7_2).toNat * 4)).block, (ad866.add ((x7_2).toNat * 4)).off + 2, none⟩ = some (.int .i64 ((rd_T148 l0 x7_2).f2)) ∧ w'.cell? ⟨(ad866.add ((x7_2).toNat * 4)).block, (ad866.add ((x7_2).toNat * 4)).off + 3, none⟩ = some (.int .i64 ((rd_T148 l0 x7_2).f3))) (ds := []) #[false, false, false, false, false, false, false, false, false, false, false, false, false, false, false, false, false, false, false, false, false, false, false] (by kernel_rfl) rfl rfl ⟨((HB.out.cell (World.block_lt_of_cell? w _ hw866_0)).trans hw866_0), ((HB.out.cell (World.block_lt_of_cell? w _ hw866_1)).trans hw866_1), ((HB.out.cell (World.block_lt_of_cell? w _ hw866_2)).trans hw866_2), ((HB.out.cell (World.block_lt_of_cell? w _ hw866_3)).trans hw866_3), ((HB.out.cell (World.block_lt_of_cell? w _ hw867_0)).trans hw867_0), ((HB.out.cell (World.block_lt_of_cell? w _ hw867_1)).trans hw867_1), ((HB.out.cell (World.block_lt_of_cell? w _ hw867_2)).trans hw867_2), ((HB.out.cell (World.block_lt_of_cell? w _ hw867_3)).trans hw867_3), ((HB.out.cell (World.block_lt_of_cell? w _ hw868_0)).trans hw868_0), ((HB.out.cell (World.block_lt_of_cell? w _ hw868_1)).trans hw868_1), ((HB.out.cell (World.block_lt_of_cell? w _ hw868_2)).trans hw868_2), ((HB.out.cell (World.block_lt_of_cell? w _ hw868_3)).trans hw868_3)⟩ (fun hHeld => ?_); refine with_tabW spec_LossesOf.tab7 spec_LossesOf.bits7 (fun HT_ HW_ => ?_)
                  generalize wr.drew = w17 at HO_6 HB hx866_0 hx866_1 hx866_2 hx866_3 hx867_0 hx867_1 hx867_2 hx867_3 hx868_0 hx868_1 hx868_2 hx868_3 hHeld ⊢
                  refine pure_ (i := 0) (N := some 23) (v := ?_) (a' := ?_) #[true, false, false, false, false, false, false, false, false, false, false, false, false, false, false, false, false, false, false, false, false, false, false] rfl rfl (any_of HT_.out (by kernel_rfl)) (fun _ _ _ h => h) (Or.inl ⟨by rfl, ?_⟩) ?_ ?_
                  rotate_left
                  · intro w'
                    go_simp
                    with_reducible rfl
                  rotate_left
                  · simp only [Act.put, List.setIfInBounds_toArray, List.set_cons_zero, List.set_cons_succ, i64_w, i32_w]
                    rfl
                  refine pure_ (i := 1) (N := some 24) (v := ?_) (a' := ?_) #[true, true, false, false, false, false, false, false, false, false, false, false, false, false, false, false, false, false, false, false, false, false, false] rfl rfl (any_of HT_.out (by kernel_rfl)) (fun _ _ _ h => h) (Or.inl ⟨by rfl, ?_⟩) ?_ ?_
                  rotate_left
                  · intro w'
                    go_simp
                    with_reducible rfl
                  rotate_left
                  · simp only [Act.put, List.setIfInBounds_toArray, List.set_cons_zero, List.set_cons_succ, i64_w, i32_w]
                    rfl
                  refine pure_ (i := 2) (N := some 25) (v := ?_) (a' := ?_) #[true, true, true, false, false, false, false, false, false, false, false, false, false, false, false, false, false, false, false, false, false, false, false] rfl rfl (any_of HT_.out (by kernel_rfl)) (fun _ _ _ h => h) (Or.inl ⟨by rfl, ?_⟩) ?_ ?_
                  rotate_left
                  · intro w'
                    go_simp
                    with_reducible rfl
                  rotate_left
                  · simp only [Act.put, List.setIfInBounds_toArray, List.set_cons_zero, List.set_cons_succ, i64_w, i32_w]
                    rfl
                  refine pure_ (i := 3) (N := some 26) (v := ?_) (a' := ?_) #[true, true, true, true, false, false, false, false, false, false, false, false, false, false, false, false, false, false, false, false, false, false, false] rfl rfl (any_of HT_.out (by kernel_rfl)) (fun _ _ _ h => h) (Or.inl ⟨by rfl, ?_⟩) ?_ ?_
                  rotate_left
                  · intro w'
                    go_simp
                    with_reducible rfl
                  rotate_left
                  · simp only [Act.put, List.setIfInBounds_toArray, List.set_cons_zero, List.set_cons_succ, i64_w, i32_w]
                    rfl
                  refine pure_ (i := 4) (N := some 27) (v := ?_) (a' := ?_) #[true, true, true, true, true, false, false, false, false, false, false, false, false, false, false, false, false, false, false, false, false, false, false] rfl rfl (any_of HT_.out (by kernel_rfl)) (fun _ _ _ h => h) (Or.inl ⟨by rfl, ?_⟩) ?_ ?_
                  rotate_left
                  · intro w'
                    go_simp
                    with_reducible rfl
                  rotate_left
                  · simp only [Act.put, List.setIfInBounds_toArray, List.set_cons_zero, List.set_cons_succ, i64_w, i32_w]
                    rfl
                  refine pure_ (i := 6) (N := some 29) (v := ?_) (a' := ?_) #[true, true, true, true, true, false, true, false, false, false, false, false, false, false, false, false, false, false, false, false, false, false, false] rfl rfl (any_of HT_.out (by kernel_rfl)) (fun _ _ _ h => h) (Or.inl ⟨by rfl, ?_⟩) ?_ ?_
                  rotate_left
                  · intro w'
                    go_simp
                    with_reducible rfl
                  rotate_left
                  · simp only [Act.put, List.setIfInBounds_toArray, List.set_cons_zero, List.set_cons_succ, i64_w, i32_w]
                    rfl
                  refine pure_ (i := 7) (N := some 30) (v := ?_) (a' := ?_) #[true, true, true, true, true, false, true, true, false, false, false, false, false, false, false, false, false, false, false, false, false, false, false] rfl rfl (any_of HT_.out (by kernel_rfl)) (fun _ _ _ h => h) (Or.inl ⟨by rfl, ?_⟩) ?_ ?_
                  rotate_left
                  · intro w'
                    go_simp
                    with_reducible rfl
                  rotate_left
                  · simp only [Act.put, List.setIfInBounds_toArray, List.set_cons_zero, List.set_cons_succ, i64_w, i32_w]
                    rfl
                  refine pure_ (i := 8) (N := some 31) (v := ?_) (a' := ?_) #[true, true, true, true, true, false, true, true, true, false, false, false, false, false, false, false, false, false, false, false, false, false, false] rfl rfl (any_of HT_.out (by kernel_rfl)) (fun _ _ _ h => h) (Or.inl ⟨by rfl, ?_⟩) ?_ ?_
                  rotate_left
                  · intro w'
                    go_simp
                    with_reducible rfl
                  rotate_left
                  · simp only [Act.put, List.setIfInBounds_toArray, List.set_cons_zero, List.set_cons_succ, i64_w, i32_w]
                    rfl
                  refine pure_ (i := 9) (N := some 32) (v := ?_) (a' := ?_) #[true, true, true, true, true, false, true, true, true, true, false, false, false, false, false, false, false, false, false, false, false, false, false] rfl rfl (any_of HT_.out (by kernel_rfl)) (fun _ _ _ h => h) (Or.inl ⟨by rfl, ?_⟩) ?_ ?_
                  rotate_left
                  · intro w'
                    go_simp
                    with_reducible rfl
                  rotate_left
                  · simp only [Act.put, List.setIfInBounds_toArray, List.set_cons_zero, List.set_cons_succ, i64_w, i32_w]
                    rfl
                  refine pure_ (i := 11) (N := some 34) (v := ?_) (a' := ?_) #[true, true, true, true, true, false, true, true, true, true, false, true, false, false, false, false, false, false, false, false, false, false, false] rfl rfl (any_of HT_.out (by kernel_rfl)) (fun _ _ _ h => h) (Or.inl ⟨by rfl, ?_⟩) ?_ ?_
                  rotate_left
                  · intro w'
                    go_simp
                    with_reducible rfl
                  rotate_left
                  · simp only [Act.put, List.setIfInBounds_toArray, List.set_cons_zero, List.set_cons_succ, i64_w, i32_w]
                    rfl
                  refine pure_ (i := 12) (N := some 35) (v := ?_) (a' := ?_) #[true, true, true, true, true, false, true, true, true, true, false, true, true, false, false, false, false, false, false, false, false, false, false] rfl rfl (any_of HT_.out (by kernel_rfl)) (fun _ _ _ h => h) (Or.inl ⟨by rfl, ?_⟩) ?_ ?_
                  rotate_left
                  · intro w'
                    go_simp
                    with_reducible rfl
                  rotate_left
                  · simp only [Act.put, List.setIfInBounds_toArray, List.set_cons_zero, List.set_cons_succ, i64_w, i32_w]
                    rfl
                  refine pure_ (i := 13) (N := some 36) (v := ?_) (a' := ?_) #[true, true, true, true, true, false, true, true, true, true, false, true, true, true, false, false, false, false, false, false, false, false, false] rfl rfl (any_of HT_.out (by kernel_rfl)) (fun _ _ _ h => h) (Or.inl ⟨by rfl, ?_⟩) ?_ ?_
                  rotate_left
                  · intro w'
                    go_simp
                    with_reducible rfl
                  rotate_left
                  · simp only [Act.put, List.setIfInBounds_toArray, List.set_cons_zero, List.set_cons_succ, i64_w, i32_w]
                    rfl
                  refine pure_ (i := 18) (N := some 41) (v := ?_) (a' := ?_) #[true, true, true, true, true, false, true, true, true, true, false, true, true, true, false, false, false, false, true, false, false, false, false] rfl rfl (any_of HT_.out (by kernel_rfl)) (fun _ _ _ h => h) (Or.inl ⟨by rfl, ?_⟩) ?_ ?_
                  rotate_left
                  · intro w'
                    go_simp
                    with_reducible rfl
                  rotate_left
                  · simp only [Act.put, List.setIfInBounds_toArray, List.set_cons_zero, List.set_cons_succ, i64_w, i32_w]
                    rfl
                  refine take_ (i := 5) (N := some 28) (v := ?_) (a' := ?_) #[true, true, true, true, true, true, true, true, true, true, false, true, true, true, false, false, false, false, true, false, false, false, false] rfl rfl (take_ofW HT_.out HW_.out (by kernel_rfl)) (fun _ _ _ h => h) (Or.inl ⟨by rfl, ?_⟩) hHeld ?_ ?_
                  rotate_left
                  · rintro w' ⟨s0, s1, s2, s3, s4, s5, s6, s7, s8, s9, s10, s11⟩
                    go_simp
                    with_reducible rfl
                  rotate_left
                  · simp only [Act.put, List.setIfInBounds_toArray, List.set_cons_zero, List.set_cons_succ, i64_w, i32_w]
                    rfl
                  refine take_ (i := 10) (N := some 33) (v := ?_) (a' := ?_) #[true, true, true, true, true, true, true, true, true, true, true, true, true, true, false, false, false, false, true, false, false, false, false] rfl rfl (take_ofW HT_.out HW_.out (by kernel_rfl)) (fun _ _ _ h => h) (Or.inl ⟨by rfl, ?_⟩) hHeld ?_ ?_
                  rotate_left
                  · rintro w' ⟨s0, s1, s2, s3, s4, s5, s6, s7, s8, s9, s10, s11⟩
                    go_simp
                    with_reducible rfl
                  rotate_left
                  · simp only [Act.put, List.setIfInBounds_toArray, List.set_cons_zero, List.set_cons_succ, i64_w, i32_w]
                    rfl
                  refine take_ (i := 14) (N := some 37) (v := ?_) (a' := ?_) #[true, true, true, true, true, true, true, true, true, true, true, true, true, true, true, false, false, false, true, false, false, false, false] rfl rfl (take_ofW HT_.out HW_.out (by kernel_rfl)) (fun _ _ _ h => h) (Or.inl ⟨by rfl, ?_⟩) hHeld ?_ ?_
                  rotate_left
                  · rintro w' ⟨s0, s1, s2, s3, s4, s5, s6, s7, s8, s9, s10, s11⟩
                    go_simp
                    with_reducible rfl
                  rotate_left
                  · simp only [Act.put, List.setIfInBounds_toArray, List.set_cons_zero, List.set_cons_succ, i64_w, i32_w]
                    rfl
                  refine one_ (i := 15) (N := some 38) #[true, true, true, true, true, true, true, true, true, true, true, true, true, true, true, true, false, false, true, false, false, false, false] rfl rfl (one_of HT_.out (by kernel_rfl)) (by decide) (fun K hK => ?_)
                  refine goes_ Try.func113 (by kernel_rfl) rfl #[.agg #[.int .i64 ((rd_T148 l0 x7_2).f0), .int .i64 ((rd_T148 l0 x7_2).f1), .int .i64 ((rd_T148 l0 x7_2).f2), .int .i64 ((rd_T148 l0 x7_2).f3)]] (by rfl) rfl rfl (by (try simp only [List.map_toArray, List.map_cons, List.map_nil]); first | done | rfl | (simp only [List.length_drop, List.length_take]; rfl)) ?_
                  with_reducible refine (spec_l07Set.calls ((rd_T148 l0 x7_2).f0) ((rd_T148 l0 x7_2).f1) ((rd_T148 l0 x7_2).f2) ((rd_T148 l0 x7_2).f3) t869 _ A14.out).mono ?_
                  rintro e w18 ⟨rfl, hb⟩
                  refine ⟨_, rfl, ?_⟩
                  have n0_ := Aside0.mk (Kd.R_below (by (with_reducible repeat (first | apply Kd.R_alloc | apply Kd.R_drewN | apply Kd.R_drew)); exact HO_6.out) hb)
                  have n1_ := Aside0.mk (below_step (by repeat (first | (with_reducible first | exact HB.out | apply below_alloc | apply pw_below_drewN | apply below_drew1) | exact HB.out)) hb)
                  clear HO_6
                  clear HB
                  have HO_6 := n0_
                  have HB := n1_
                  clear n0_ n1_
                  (try clear hb)
                  (try clear hb2)
                  (try clear hk)
                  (try clear hi)
                  refine hK.out _ _ ⟨((HB.out.cell (World.block_lt_of_cell? w _ hw866_0)).trans hw866_0), ((HB.out.cell (World.block_lt_of_cell? w _ hw866_1)).trans hw866_1), ((HB.out.cell (World.block_lt_of_cell? w _ hw866_2)).trans hw866_2), ((HB.out.cell (World.block_lt_of_cell? w _ hw866_3)).trans hw866_3), ((HB.out.cell (World.block_lt_of_cell? w _ hw867_0)).trans hw867_0), ((HB.out.cell (World.block_lt_of_cell? w _ hw867_1)).trans hw867_1), ((HB.out.cell (World.block_lt_of_cell? w _ hw867_2)).trans hw867_2), ((HB.out.cell (World.block_lt_of_cell? w _ hw867_3)).trans hw867_3), ((HB.out.cell (World.block_lt_of_cell? w _ hw868_0)).trans hw868_0), ((HB.out.cell (World.block_lt_of_cell? w _ hw868_1)).trans hw868_1), ((HB.out.cell (World.block_lt_of_cell? w _ hw868_2)).trans hw868_2), ((HB.out.cell (World.block_lt_of_cell? w _ hw868_3)).trans hw868_3)⟩ (fun hHeld => ?_)
                  clear hK K
                  refine norm_ (a' := ?_) ?_ ?_
                  rotate_left
                  · show Act.put _ (some 38) _ = _
                    simp only [Act.put, List.setIfInBounds_toArray, List.set_cons_zero, List.set_cons_succ, i64_w, i32_w]
                    rfl
                  refine pure_ (i := 16) (N := some 39) (v := ?_) (a' := ?_) #[true, true, true, true, true, true, true, true, true, true, true, true, true, true, true, true, true, false, true, false, false, false, false] rfl rfl (any_of HT_.out (by kernel_rfl)) (fun _ _ _ h => h) (Or.inl ⟨by rfl, ?_⟩) ?_ ?_
                  rotate_left
                  · intro w'
                    go_simp
                    with_reducible rfl
                  rotate_left
                  · simp only [Act.put, List.setIfInBounds_toArray, List.set_cons_zero, List.set_cons_succ, i64_w, i32_w]
                    rfl
                  refine one_ (i := 17) (N := some 40) #[true, true, true, true, true, true, true, true, true, true, true, true, true, true, true, true, true, true, true, false, false, false, false] rfl rfl (one_of HT_.out (by kernel_rfl)) (by decide) (fun K hK => ?_)
                  refine goes_ Try.func112 (by kernel_rfl) rfl #[.int .i64 0, .int .i64 (wrap64 (((rd_T148 l0 x7_2).f1) - t869))] (by rfl) rfl rfl (by (try simp only [List.map_toArray, List.map_cons, List.map_nil]); first | done | rfl | (simp only [List.length_drop, List.length_take]; rfl)) ?_
                  with_reducible refine (spec_l00Max.calls 0 (wrap64 (((rd_T148 l0 x7_2).f1) - t869)) t870 _ A15.out).mono ?_
                  rintro e w' ⟨rfl, ⟨nd, rfl⟩⟩
                  refine ⟨_, rfl, ?_⟩
                  refine hK.out _ _ ⟨((HB.out.cell (World.block_lt_of_cell? w _ hw866_0)).trans hw866_0), ((HB.out.cell (World.block_lt_of_cell? w _ hw866_1)).trans hw866_1), ((HB.out.cell (World.block_lt_of_cell? w _ hw866_2)).trans hw866_2), ((HB.out.cell (World.block_lt_of_cell? w _ hw866_3)).trans hw866_3), ((HB.out.cell (World.block_lt_of_cell? w _ hw867_0)).trans hw867_0), ((HB.out.cell (World.block_lt_of_cell? w _ hw867_1)).trans hw867_1), ((HB.out.cell (World.block_lt_of_cell? w _ hw867_2)).trans hw867_2), ((HB.out.cell (World.block_lt_of_cell? w _ hw867_3)).trans hw867_3), ((HB.out.cell (World.block_lt_of_cell? w _ hw868_0)).trans hw868_0), ((HB.out.cell (World.block_lt_of_cell? w _ hw868_1)).trans hw868_1), ((HB.out.cell (World.block_lt_of_cell? w _ hw868_2)).trans hw868_2), ((HB.out.cell (World.block_lt_of_cell? w _ hw868_3)).trans hw868_3)⟩ (fun hHeld => ?_)
                  clear hK K
                  refine norm_ (a' := ?_) ?_ ?_
                  rotate_left
                  · show Act.put _ (some 40) _ = _
                    simp only [Act.put, List.setIfInBounds_toArray, List.set_cons_zero, List.set_cons_succ, i64_w, i32_w]
                    rfl
                  refine pure_ (i := 19) (N := some 42) (v := ?_) (a' := ?_) #[true, true, true, true, true, true, true, true, true, true, true, true, true, true, true, true, true, true, true, true, false, false, false] rfl rfl (any_of HT_.out (by kernel_rfl)) (fun _ _ _ h => h) (Or.inl ⟨by rfl, ?_⟩) ?_ ?_
                  rotate_left
                  · intro w'
                    go_simp
                    with_reducible rfl
                  rotate_left
                  · simp only [Act.put, List.setIfInBounds_toArray, List.set_cons_zero, List.set_cons_succ, i64_w, i32_w]
                    rfl
                  refine one_ (i := 20) (N := some 43) #[true, true, true, true, true, true, true, true, true, true, true, true, true, true, true, true, true, true, true, true, true, false, false] rfl rfl (one_of HT_.out (by kernel_rfl)) (by decide) (fun K hK => ?_)
                  refine value_ (w1 := ?_) (v := ?_) (by rfl) rfl ?_ ?_
                  rotate_left 2
                  · go_simp
                    constructor
                    · rfl
                    · rfl
                  refine hK.out _ _ ⟨(World.cell?_alloc_lt _ _ _ (World.block_lt_of_cell? _ _ (((HB.out.cell (World.block_lt_of_cell? w _ hw866_0)).trans hw866_0)))).trans (((HB.out.cell (World.block_lt_of_cell? w _ hw866_0)).trans hw866_0)), (World.cell?_alloc_lt _ _ _ (World.block_lt_of_cell? _ _ (((HB.out.cell (World.block_lt_of_cell? w _ hw866_1)).trans hw866_1)))).trans (((HB.out.cell (World.block_lt_of_cell? w _ hw866_1)).trans hw866_1)), (World.cell?_alloc_lt _ _ _ (World.block_lt_of_cell? _ _ (((HB.out.cell (World.block_lt_of_cell? w _ hw866_2)).trans hw866_2)))).trans (((HB.out.cell (World.block_lt_of_cell? w _ hw866_2)).trans hw866_2)), (World.cell?_alloc_lt _ _ _ (World.block_lt_of_cell? _ _ (((HB.out.cell (World.block_lt_of_cell? w _ hw866_3)).trans hw866_3)))).trans (((HB.out.cell (World.block_lt_of_cell? w _ hw866_3)).trans hw866_3)), (World.cell?_alloc_lt _ _ _ (World.block_lt_of_cell? _ _ (((HB.out.cell (World.block_lt_of_cell? w _ hw867_0)).trans hw867_0)))).trans (((HB.out.cell (World.block_lt_of_cell? w _ hw867_0)).trans hw867_0)), (World.cell?_alloc_lt _ _ _ (World.block_lt_of_cell? _ _ (((HB.out.cell (World.block_lt_of_cell? w _ hw867_1)).trans hw867_1)))).trans (((HB.out.cell (World.block_lt_of_cell? w _ hw867_1)).trans hw867_1)), (World.cell?_alloc_lt _ _ _ (World.block_lt_of_cell? _ _ (((HB.out.cell (World.block_lt_of_cell? w _ hw867_2)).trans hw867_2)))).trans (((HB.out.cell (World.block_lt_of_cell? w _ hw867_2)).trans hw867_2)), (World.cell?_alloc_lt _ _ _ (World.block_lt_of_cell? _ _ (((HB.out.cell (World.block_lt_of_cell? w _ hw867_3)).trans hw867_3)))).trans (((HB.out.cell (World.block_lt_of_cell? w _ hw867_3)).trans hw867_3)), (World.cell?_alloc_lt _ _ _ (World.block_lt_of_cell? _ _ (((HB.out.cell (World.block_lt_of_cell? w _ hw868_0)).trans hw868_0)))).trans (((HB.out.cell (World.block_lt_of_cell? w _ hw868_0)).trans hw868_0)), (World.cell?_alloc_lt _ _ _ (World.block_lt_of_cell? _ _ (((HB.out.cell (World.block_lt_of_cell? w _ hw868_1)).trans hw868_1)))).trans (((HB.out.cell (World.block_lt_of_cell? w _ hw868_1)).trans hw868_1)), (World.cell?_alloc_lt _ _ _ (World.block_lt_of_cell? _ _ (((HB.out.cell (World.block_lt_of_cell? w _ hw868_2)).trans hw868_2)))).trans (((HB.out.cell (World.block_lt_of_cell? w _ hw868_2)).trans hw868_2)), (World.cell?_alloc_lt _ _ _ (World.block_lt_of_cell? _ _ (((HB.out.cell (World.block_lt_of_cell? w _ hw868_3)).trans hw868_3)))).trans (((HB.out.cell (World.block_lt_of_cell? w _ hw868_3)).trans hw868_3))⟩ (fun hHeld => ?_)
                  clear hK K
                  refine norm_ (a' := ?_) ?_ ?_
                  rotate_left
                  · show Act.put _ (some 43) _ = _
                    simp only [Act.put, List.setIfInBounds_toArray, List.set_cons_zero, List.set_cons_succ, i64_w, i32_w]
                    rfl
                  refine one_ (i := 21) (N := some 44) #[true, true, true, true, true, true, true, true, true, true, true, true, true, true, true, true, true, true, true, true, true, true, false] rfl rfl (one_of HT_.out (by kernel_rfl)) (by decide) (fun K hK => ?_)
                  refine Kd.R_append_step k107 (w0 := w) w.heap.size (by rfl) (.tmp 23) (.tmp 43) 27 107 (.agg #[(.int .i64 0), (.int .i64 0), (.int .i64 0)]) 24 rfl Try.underlying27 info107 rfl (by decide) (by omega) u6 x6_2 (⟨(rd_T148 l0 x7_2).f0, t870, a1⟩ : S107) [.int .i64 ((rd_T148 l0 x7_2).f0), .int .i64 t870, .int .i64 a1] (fun _ => True) (fun _ => False) rfl rfl ?aP (fun _ hk => hk.elim) ?aF ?aO ?aB ?aS ?aL ?_
                  (case aP => exact k107_mkM _ _ _ (⟨(rd_T148 l0 x7_2).f0, t870, a1⟩ : S107))
                  (case aB => exact (by repeat (first | (with_reducible first | exact HB.out | apply below_alloc | apply pw_below_drewN | apply below_drew1) | exact HB.out)))
                  (case aF => exact (fun _ _ => trivial))
                  (case aO => exact (by (with_reducible repeat (first | apply Kd.R_alloc | apply Kd.R_drewN | apply Kd.R_drew)); exact HO_6.out))
                  (case aS => exact (below_size (by repeat (first | (with_reducible first | exact HB.out | apply below_alloc | apply pw_below_drewN | apply below_drew1) | exact HB.out))))
                  (case aL => have := LMc16.out; omega)
                  intro v872 w19 ho hb hg hat
                  rw [← Ny871.out] at ho
                  have n0_ := Aside0.mk (hb)
                  have n1_ := Aside0.mk (ho)
                  clear HB
                  clear HO_6
                  have HB := n0_
                  have HO873 := n1_
                  clear n0_ n1_
                  clear ho hb hg hat
                  refine hK.out _ _ ⟨((HB.out.cell (World.block_lt_of_cell? w _ hw866_0)).trans hw866_0), ((HB.out.cell (World.block_lt_of_cell? w _ hw866_1)).trans hw866_1), ((HB.out.cell (World.block_lt_of_cell? w _ hw866_2)).trans hw866_2), ((HB.out.cell (World.block_lt_of_cell? w _ hw866_3)).trans hw866_3), ((HB.out.cell (World.block_lt_of_cell? w _ hw867_0)).trans hw867_0), ((HB.out.cell (World.block_lt_of_cell? w _ hw867_1)).trans hw867_1), ((HB.out.cell (World.block_lt_of_cell? w _ hw867_2)).trans hw867_2), ((HB.out.cell (World.block_lt_of_cell? w _ hw867_3)).trans hw867_3), ((HB.out.cell (World.block_lt_of_cell? w _ hw868_0)).trans hw868_0), ((HB.out.cell (World.block_lt_of_cell? w _ hw868_1)).trans hw868_1), ((HB.out.cell (World.block_lt_of_cell? w _ hw868_2)).trans hw868_2), ((HB.out.cell (World.block_lt_of_cell? w _ hw868_3)).trans hw868_3)⟩ (fun hHeld => ?_)
                  clear hK K
                  refine norm_ (a' := ?_) ?_ ?_
                  rotate_left
                  · show Act.put _ (some 44) _ = _
                    simp only [Act.put, List.setIfInBounds_toArray, List.set_cons_zero, List.set_cons_succ, i64_w, i32_w]
                    rfl
                  refine pure_ (i := 22) (N := some 6) (v := ?_) (a' := ?_) #[true, true, true, true, true, true, true, true, true, true, true, true, true, true, true, true, true, true, true, true, true, true, true] rfl rfl (any_of HT_.out (by kernel_rfl)) (fun _ _ _ h => h) (Or.inl ⟨by rfl, ?_⟩) ?_ ?_
                  rotate_left
                  · intro w'
                    go_simp
                    with_reducible rfl
                  rotate_left
                  · simp only [Act.put, List.setIfInBounds_toArray, List.set_cons_zero, List.set_cons_succ, i64_w, i32_w]
                    rfl
                  refine done_ (done_of HT_.out (by kernel_rfl)) ?_
                  try go_wp2
                  go_roundg k2
                  case measure => have := HJ2.out; have := HK2.out; omega
                  case rel => exact ⟨(y871), (wrap64 (x7_2 + 1)), (by first | rfl | (simp; done) | (simp [*]; done) | (simp [Int.tdiv_eq_ediv_of_nonneg, *]; done)), H', ⟨by have := HJ2.out; have := HK2.out; omega⟩, ⟨by (with_reducible repeat (first | apply Kd.R_alloc | apply Kd.R_drewN | apply Kd.R_drew)); exact HO873.out⟩, ⟨by repeat (first | (with_reducible first | exact HB.out | apply below_alloc | apply pw_below_drewN | apply below_drew1) | exact HB.out)⟩⟩
                · rw [if_neg c16] at H
                  exact absurd H (by simp)
              · rw [if_neg c13] at H
                exact absurd H (by simp)
            · rw [if_neg c12] at H
              have c12b0 : decide (x7_2 < (l0.length : Int)) = false := decide_eq_false c12
              clear c12
              replace H := Option.bind_eq_some_iff.mp H
              obtain ⟨t874, A200, H⟩ := H
              replace H : (if t874 = true then (some (x6_2, true)) else (some (([] : List (S107)), false))) = some (r1, r2) := H
              have A20 := Aside0.mk A200
              clear A200
              by_cases c21 : t874 = true
              · subst c21
                have H1 : (some (x6_2, true)) = some (r1, r2) := by rw [if_pos rfl] at H; exact H
                clear H
                have H := H1
                clear H1
                simp only [Option.some.injEq, Prod.mk.injEq] at H
                obtain ⟨rfl, rfl⟩ := H
                obtain ⟨Ao22, co22, eo22⟩ := Kd.R_slice HO_6.out
                subst eo22
                go_wp2_with (first | ((with_reducible refine gate_callee (f := 87) rfl ?_); refine goesL_ (some 46) rfl rfl Try.func87 (by kernel_rfl) rfl #[.slice Ao22 x6_2.length co22] rfl (by (try simp only [List.map_toArray, List.map_cons, List.map_nil]); first | done | rfl | (simp only [List.length_drop, List.length_take]; rfl)) ?_; (with_reducible refine (spec_l07Losses.calls k2 _ _ x6_2 true _ ?side1 ?side2 A20.out).mono ?_); (case side1 => repeat (first | exact (Kd.R_reads' HO_6.out).2.2 | (with_reducible refine Kd.C_alloc ?_ _) | (with_reducible refine Kd.C_drewN ?_ _) | (with_reducible refine Kd.C_drew ?_))); (case side2 => exact (Kd.R_reads' HO_6.out).2.1); rintro e w23 ⟨rfl, hb⟩; refine ⟨_, rfl, ?_⟩; have n0_ := Aside0.mk (Kd.R_below (by (with_reducible repeat (first | apply Kd.R_alloc | apply Kd.R_drewN | apply Kd.R_drew)); exact HO_6.out) hb); have n1_ := Aside0.mk (below_step (by repeat (first | (with_reducible first | exact HB.out | apply below_alloc | apply pw_below_drewN | apply below_drew1) | exact HB.out)) hb); clear HO_6; clear HB; have HO_6 := n0_; have HB := n1_; clear n0_ n1_; (try clear hb); (try clear hb2); (try clear hk); (try clear hi)))
                go_ret2
                exact ⟨_, by first | rfl | (simp [errW_none, errW_some] <;> rfl) | (simp [*, errW_none, errW_some] <;> rfl) | (simp [Int.tdiv_eq_ediv_of_nonneg, *]; done), by (with_reducible repeat (first | apply Kd.R_alloc | apply Kd.R_drewN | apply Kd.R_drew)); exact HO_6.out, by repeat (first | (with_reducible first | exact HB.out | apply below_alloc | apply pw_below_drewN | apply below_drew1) | exact HB.out)⟩
              · replace c21 := Bool.eq_false_iff.mpr c21
                subst c21
                have H1 : (some (([] : List (S107)), false)) = some (r1, r2) := by rw [if_neg (show ¬ (false = true) by decide)] at H; exact H
                clear H
                have H := H1
                clear H1
                simp only [Option.some.injEq, Prod.mk.injEq] at H
                obtain ⟨rfl, rfl⟩ := H
                obtain ⟨Ao24, co24, eo24⟩ := Kd.R_slice HO_6.out
                subst eo24
                go_wp2_with (first | ((with_reducible refine gate_callee (f := 87) rfl ?_); refine goesL_ (some 46) rfl rfl Try.func87 (by kernel_rfl) rfl #[.slice Ao24 x6_2.length co24] rfl (by (try simp only [List.map_toArray, List.map_cons, List.map_nil]); first | done | rfl | (simp only [List.length_drop, List.length_take]; rfl)) ?_; (with_reducible refine (spec_l07Losses.calls k2 _ _ x6_2 false _ ?side1 ?side2 A20.out).mono ?_); (case side1 => repeat (first | exact (Kd.R_reads' HO_6.out).2.2 | (with_reducible refine Kd.C_alloc ?_ _) | (with_reducible refine Kd.C_drewN ?_ _) | (with_reducible refine Kd.C_drew ?_))); (case side2 => exact (Kd.R_reads' HO_6.out).2.1); rintro e w25 ⟨rfl, hb⟩; refine ⟨_, rfl, ?_⟩; have n0_ := Aside0.mk (Kd.R_below (by (with_reducible repeat (first | apply Kd.R_alloc | apply Kd.R_drewN | apply Kd.R_drew)); exact HO_6.out) hb); have n1_ := Aside0.mk (below_step (by repeat (first | (with_reducible first | exact HB.out | apply below_alloc | apply pw_below_drewN | apply below_drew1) | exact HB.out)) hb); clear HO_6; clear HB; have HO_6 := n0_; have HB := n1_; clear n0_ n1_; (try clear hb); (try clear hb2); (try clear hk); (try clear hi)))
                go_ret2
                exact ⟨_, by first | rfl | (simp [errW_none, errW_some] <;> rfl) | (simp [*, errW_none, errW_some] <;> rfl) | (simp [Int.tdiv_eq_ediv_of_nonneg, *]; done), by first | exact Kd.R_nil _ _ _ _ _ | exact Kd.N_nil _ _ _ _ _ | exact Kd.V_nil _ _ _ _ _ | exact Kd.Q_nil _ _ _ _ _ | exact Kd.S_nil _ _ _ _ _, by repeat (first | (with_reducible first | exact HB.out | apply below_alloc | apply pw_below_drewN | apply below_drew1) | exact HB.out)⟩

/-! ### laws_toGrout: function 114 -/
def laws_toGrout.f (a0_0 : Int) (a0_1 : Int) (a0_2 : Int) (a0_3 : Int) : Option (Int × Int × Int × Int) := some (a0_0, a0_1, a0_2, a0_3)
set_option maxHeartbeats 8000000 in
set_option maxRecDepth 100000 in
theorem laws_toGrout.calls (a0_0 : Int) (a0_1 : Int) (a0_2 : Int) (a0_3 : Int) (r1 : Int) (r2 : Int) (r3 : Int) (r4 : Int) (w : World) (h : laws_toGrout.f a0_0 a0_1 a0_2 a0_3 = some (r1, r2, r3, r4)) :
    Calls Try.prog 114 #[.agg #[.int .i64 a0_0, .int .i64 a0_1, .int .i64 a0_2, .int .i64 a0_3]] w fun e w' => e = .returned (.agg #[.int .i64 r1, .int .i64 r2, .int .i64 r3, .int .i64 r4]) ∧ Below w.heap.size w w' := by
  have hu152 := Try.underlying152
  have hu148 := Try.underlying148
  have HB := Aside0.mk (Below.refl w.heap.size w)
  have H : (some (a0_0, a0_1, a0_2, a0_3)) = some (r1, r2, r3, r4) := h
  clear h
  simp only [Option.some.injEq, Prod.mk.injEq] at H
  obtain ⟨rfl, rfl, rfl, rfl⟩ := H
  go_enter Try.func114, Try.ntmps114
  go_wp2_with (first | ((with_reducible refine gate_dst (N := 1) rfl ?_); refine box_event ?hg (N := 1) ?hd (cs := #[.int .i64 a0_0, .int .i64 a0_1, .int .i64 a0_2, .int .i64 a0_3]) (t := 152) ?hr ?_; (case hd => rfl); (case hg => rfl); (case hr => first | (go_simp; done) | (go_simp; rfl)); intro gb875 hg w2 hbox hb; have n0_ := Aside0.mk (below_step (by repeat (first | (with_reducible first | exact HB.out | apply below_alloc | apply pw_below_drewN | apply below_drew1) | exact HB.out)) hb); have n1_ := Aside0.mk (hbox); have n2_ := Aside0.mk ((by rw [hg]; exact (below_size (by repeat (first | (with_reducible first | exact HB.out | apply below_alloc | apply pw_below_drewN | apply below_drew1) | exact HB.out))) : w.heap.size ≤ gb875)); have n3_ := Aside0.mk ((by rw [hg]; exact (below_size (by repeat (first | (with_reducible first | exact HB.out | apply below_alloc | apply pw_below_drewN | apply below_drew1) | exact HB.out))) : w.heap.size ≤ gb875)); clear HB; have HB := n0_; have BK875 := n1_; have GW875 := n2_; have GE875 := n3_; clear n0_ n1_ n2_ n3_; clear hb hbox hg) | ((with_reducible refine gate_dst (N := 2) rfl ?_); refine box_event ?hg (N := 2) ?hd (cs := #[.int .i64 0, .int .i64 0, .int .i64 0, .int .i64 0]) (t := 148) ?hr ?_; (case hd => rfl); (case hg => rfl); (case hr => first | (go_simp; done) | (go_simp; rfl)); intro gb876 hg w3 hbox hb; have n0_ := Aside0.mk (blk_below (g := gb875) (o := .cells #[.int .i64 a0_0, .int .i64 a0_1, .int .i64 a0_2, .int .i64 a0_3] 152 (0, 0)) (by (with_reducible repeat (first | refine blk_drewN ?_ _ | refine blk_drew ?_ | refine blk_alloc ?_ _)); exact BK875.out) hb); have n1_ := Aside0.mk (below_step (by repeat (first | (with_reducible first | exact HB.out | apply below_alloc | apply pw_below_drewN | apply below_drew1 | refine below_set ?_ GE875.out) | exact HB.out)) hb); have n2_ := Aside0.mk (hbox); have n3_ := Aside0.mk ((by rw [hg]; exact (below_size (by repeat (first | (with_reducible first | exact HB.out | apply below_alloc | apply pw_below_drewN | apply below_drew1 | refine below_set ?_ GE875.out) | exact HB.out))) : w.heap.size ≤ gb876)); have n4_ := Aside0.mk ((by rw [hg]; exact (below_size (by repeat (first | (with_reducible first | exact HB.out | apply below_alloc | apply pw_below_drewN | apply below_drew1 | refine below_set ?_ GE875.out) | exact HB.out))) : w.heap.size ≤ gb876)); have n5_ := Aside0.mk ((by rw [hg]; exact Nat.ne_of_lt (blk_lt (g := gb875) (o := .cells #[.int .i64 a0_0, .int .i64 a0_1, .int .i64 a0_2, .int .i64 a0_3] 152 (0, 0)) (by (with_reducible repeat (first | refine blk_drewN ?_ _ | refine blk_drew ?_ | refine blk_alloc ?_ _)); exact BK875.out)) : gb875 ≠ gb876)); have n6_ := Aside0.mk ((by rw [hg]; exact Nat.ne_of_gt (blk_lt (g := gb875) (o := .cells #[.int .i64 a0_0, .int .i64 a0_1, .int .i64 a0_2, .int .i64 a0_3] 152 (0, 0)) (by (with_reducible repeat (first | refine blk_drewN ?_ _ | refine blk_drew ?_ | refine blk_alloc ?_ _)); exact BK875.out)) : gb876 ≠ gb875)); clear BK875; clear HB; have BK875 := n0_; have HB := n1_; have BK876 := n2_; have GW876 := n3_; have GE876 := n4_; have NB875_876 := n5_; have NB876_875 := n6_; clear n0_ n1_ n2_ n3_ n4_ n5_ n6_; clear hb hbox hg) | ((with_reducible refine gate_dst (N := 3) rfl ?_); refine box_event ?hg (N := 3) ?hd (cs := #[.int .i64 0, .int .i64 0, .int .i64 0, .int .i64 0]) (t := 148) ?hr ?_; (case hd => rfl); (case hg => rfl); (case hr => first | (go_simp; done) | (go_simp; rfl)); intro gb877 hg w4 hbox hb; have n0_ := Aside0.mk (blk_below (g := gb875) (o := .cells #[.int .i64 a0_0, .int .i64 a0_1, .int .i64 a0_2, .int .i64 a0_3] 152 (0, 0)) (by (with_reducible repeat (first | refine blk_drewN ?_ _ | refine blk_drew ?_ | refine blk_alloc ?_ _)); exact BK875.out) hb); have n1_ := Aside0.mk (blk_below (g := gb876) (o := .cells #[.int .i64 0, .int .i64 0, .int .i64 0, .int .i64 0] 148 (0, 0)) (by (with_reducible repeat (first | refine blk_drewN ?_ _ | refine blk_drew ?_ | refine blk_alloc ?_ _)); exact BK876.out) hb); have n2_ := Aside0.mk (below_step (by repeat (first | (with_reducible first | exact HB.out | apply below_alloc | apply pw_below_drewN | apply below_drew1 | refine below_set ?_ GE875.out | refine below_set ?_ GE876.out) | exact HB.out)) hb); have n3_ := Aside0.mk (hbox); have n4_ := Aside0.mk ((by rw [hg]; exact (below_size (by repeat (first | (with_reducible first | exact HB.out | apply below_alloc | apply pw_below_drewN | apply below_drew1 | refine below_set ?_ GE875.out | refine below_set ?_ GE876.out) | exact HB.out))) : w.heap.size ≤ gb877)); have n5_ := Aside0.mk ((by rw [hg]; exact (below_size (by repeat (first | (with_reducible first | exact HB.out | apply below_alloc | apply pw_below_drewN | apply below_drew1 | refine below_set ?_ GE875.out | refine below_set ?_ GE876.out) | exact HB.out))) : w.heap.size ≤ gb877)); have n6_ := Aside0.mk ((by rw [hg]; exact Nat.ne_of_lt (blk_lt (g := gb875) (o := .cells #[.int .i64 a0_0, .int .i64 a0_1, .int .i64 a0_2, .int .i64 a0_3] 152 (0, 0)) (by (with_reducible repeat (first | refine blk_drewN ?_ _ | refine blk_drew ?_ | refine blk_alloc ?_ _)); exact BK875.out)) : gb875 ≠ gb877)); have n7_ := Aside0.mk ((by rw [hg]; exact Nat.ne_of_gt (blk_lt (g := gb875) (o := .cells #[.int .i64 a0_0, .int .i64 a0_1, .int .i64 a0_2, .int .i64 a0_3] 152 (0, 0)) (by (with_reducible repeat (first | refine blk_drewN ?_ _ | refine blk_drew ?_ | refine blk_alloc ?_ _)); exact BK875.out)) : gb877 ≠ gb875)); have n8_ := Aside0.mk ((by rw [hg]; exact Nat.ne_of_lt (blk_lt (g := gb876) (o := .cells #[.int .i64 0, .int .i64 0, .int .i64 0, .int .i64 0] 148 (0, 0)) (by (with_reducible repeat (first | refine blk_drewN ?_ _ | refine blk_drew ?_ | refine blk_alloc ?_ _)); exact BK876.out)) : gb876 ≠ gb877)); have n9_ := Aside0.mk ((by rw [hg]; exact Nat.ne_of_gt (blk_lt (g := gb876) (o := .cells #[.int .i64 0, .int .i64 0, .int .i64 0, .int .i64 0] 148 (0, 0)) (by (with_reducible repeat (first | refine blk_drewN ?_ _ | refine blk_drew ?_ | refine blk_alloc ?_ _)); exact BK876.out)) : gb877 ≠ gb876)); clear BK875; clear BK876; clear HB; have BK875 := n0_; have BK876 := n1_; have HB := n2_; have BK877 := n3_; have GW877 := n4_; have GE877 := n5_; have NB875_877 := n6_; have NB877_875 := n7_; have NB876_877 := n8_; have NB877_876 := n9_; clear n0_ n1_ n2_ n3_ n4_ n5_ n6_ n7_ n8_ n9_; clear hb hbox hg; have hnb5 := NB875_876.out; have hnc5 := NB876_875.out; have hnb6 := NB875_877.out; have hnc6 := NB877_875.out; have hcz7_0 : w4.cell? ⟨gb875, 0, none⟩ = some (.int .i64 a0_0) := (blk_cell BK875.out 0).trans rfl; have hcz7_1 : w4.cell? ⟨gb875, 1, none⟩ = some (.int .i64 a0_1) := (blk_cell BK875.out 1).trans rfl; have hcz7_2 : w4.cell? ⟨gb875, 2, none⟩ = some (.int .i64 a0_2) := (blk_cell BK875.out 2).trans rfl; have hcz7_3 : w4.cell? ⟨gb875, 3, none⟩ = some (.int .i64 a0_3) := (blk_cell BK875.out 3).trans rfl; have hfz7_0 := blk_frozen BK875.out 0; have hfz7_1 := blk_frozen BK875.out 1; have hfz7_2 := blk_frozen BK875.out 2; have hfz7_3 := blk_frozen BK875.out 3; have hnb8 := NB877_876.out; have hnc8 := NB876_877.out; have hcz9_0 : w4.cell? ⟨gb877, 0, none⟩ = some (.int .i64 0) := (blk_cell BK877.out 0).trans rfl; have hcz9_1 : w4.cell? ⟨gb877, 1, none⟩ = some (.int .i64 0) := (blk_cell BK877.out 1).trans rfl; have hcz9_2 : w4.cell? ⟨gb877, 2, none⟩ = some (.int .i64 0) := (blk_cell BK877.out 2).trans rfl; have hcz9_3 : w4.cell? ⟨gb877, 3, none⟩ = some (.int .i64 0) := (blk_cell BK877.out 3).trans rfl; have hfz9_0 := blk_frozen BK877.out 0; have hfz9_1 := blk_frozen BK877.out 1; have hfz9_2 := blk_frozen BK877.out 2; have hfz9_3 := blk_frozen BK877.out 3; have hcz10_0 : w4.cell? ⟨gb876, 0, none⟩ = some (.int .i64 0) := (blk_cell BK876.out 0).trans rfl; have hcz10_1 : w4.cell? ⟨gb876, 1, none⟩ = some (.int .i64 0) := (blk_cell BK876.out 1).trans rfl; have hcz10_2 : w4.cell? ⟨gb876, 2, none⟩ = some (.int .i64 0) := (blk_cell BK876.out 2).trans rfl; have hcz10_3 : w4.cell? ⟨gb876, 3, none⟩ = some (.int .i64 0) := (blk_cell BK876.out 3).trans rfl; have hfz10_0 := blk_frozen BK876.out 0; have hfz10_1 := blk_frozen BK876.out 1; have hfz10_2 := blk_frozen BK876.out 2; have hfz10_3 := blk_frozen BK876.out 3))
  refine bodyPost_ret (results_cell_row rfl _ _ gb876 148 #[.int .i64 a0_0, .int .i64 a0_1, .int .i64 a0_2, .int .i64 a0_3] (0, 0) _ rfl (by (with_reducible repeat (first | refine blk_drewN ?_ _ | refine blk_drew ?_ | refine blk_alloc ?_ _)); refine blk_put (cs := #[.int .i64 a0_0, .int .i64 a0_1, .int .i64 a0_2, .int .i64 0]) ?_ 3 _ rfl; (with_reducible repeat (first | refine blk_drewN ?_ _ | refine blk_drew ?_ | refine blk_alloc ?_ _)); refine blk_put (cs := #[.int .i64 a0_0, .int .i64 a0_1, .int .i64 0, .int .i64 0]) ?_ 2 _ rfl; (with_reducible repeat (first | refine blk_drewN ?_ _ | refine blk_drew ?_ | refine blk_alloc ?_ _)); refine blk_put (cs := #[.int .i64 a0_0, .int .i64 0, .int .i64 0, .int .i64 0]) ?_ 1 _ rfl; (with_reducible repeat (first | refine blk_drewN ?_ _ | refine blk_drew ?_ | refine blk_alloc ?_ _)); refine blk_put (cs := #[.int .i64 0, .int .i64 0, .int .i64 0, .int .i64 0]) ?_ 0 _ rfl; (with_reducible repeat (first | refine blk_drewN ?_ _ | refine blk_drew ?_ | refine blk_alloc ?_ _)); refine blk_far ?_ NB876_877.out _; (with_reducible repeat (first | refine blk_drewN ?_ _ | refine blk_drew ?_ | refine blk_alloc ?_ _)); refine blk_far ?_ NB876_877.out _; (with_reducible repeat (first | refine blk_drewN ?_ _ | refine blk_drew ?_ | refine blk_alloc ?_ _)); refine blk_far ?_ NB876_877.out _; (with_reducible repeat (first | refine blk_drewN ?_ _ | refine blk_drew ?_ | refine blk_alloc ?_ _)); refine blk_far ?_ NB876_877.out _; (with_reducible repeat (first | refine blk_drewN ?_ _ | refine blk_drew ?_ | refine blk_alloc ?_ _)); exact BK876.out) Try.underlying148 rfl (by kernel_rfl)) rfl ?_
  exact ⟨by first | rfl | (simp [errW_none, errW_some] <;> rfl) | (simp [*, errW_none, errW_some] <;> rfl) | (simp [Int.tdiv_eq_ediv_of_nonneg, *]; done), by repeat (first | (with_reducible first | exact HB.out | apply below_alloc | apply pw_below_drewN | apply below_drew1 | refine below_set ?_ GE875.out | refine below_set ?_ GE876.out | refine below_set ?_ GE877.out) | exact HB.out)⟩

end Go.Proofs.Ytajndapolblhmab.P
-- Walks of this claim's functions, laid by a program of this session.
namespace Go.Proofs.Ytajndapolblhmab.P
open Go.RowKit Go.Proofs.YtajndapolblhmabW.PrintWords Go.Proofs.YtajndapolblhmabW.PrintLast Go.Proofs.YtajndapolblhmabW.PrintMore
attribute [local go_sem] max2_int min2_int max_two min_two max_three min_three max_four min_four   -- for this text's walks alone
set_option linter.unusedVariables false
set_option linter.unusedSimpArgs false

/-! ### laws_toGroutS: function 57 -/
def laws_toGroutS.l0 : Nat → List (S152) → List (S148) → Int → Option ((List (S148)))
  | 0, _, _, _ => none
  | k + 1, x0, x3, x4 => if x4 < (x0.length : Int) then (if 0 ≤ x4 then ((laws_toGrout.f ((rd_T152 x0 x4).f0) ((rd_T152 x0 x4).f1) ((rd_T152 x0 x4).f2) ((rd_T152 x0 x4).f3)).bind fun bt882 => (if x4 < (x3.length : Int) then (laws_toGroutS.l0 k x0 (x3.set (x4 : Int).toNat (⟨bt882.1, bt882.2.1, bt882.2.2.1, bt882.2.2.2⟩ : S148)) (wrap64 (x4 + 1))) else (none))) else (none)) else (some x3)
def laws_toGroutS.f (k : Nat) (l0 : List (S152)) : Option ((List (S148))) := if 0 ≤ (l0.length : Int) then (if ((l0.length : Int) : Int).toNat ≤ 8796093022208 then (laws_toGroutS.l0 k l0 (List.replicate ((l0.length : Int) : Int).toNat z148) 0) else (none)) else (none)
theorem laws_toGroutS.mono_l : ∀ k, (∀ y0 y1 y2, LeO (laws_toGroutS.l0 k y0 y1 y2) (laws_toGroutS.l0 (k + 1) y0 y1 y2))
  | 0 => fun _ _ _ r h => by simp [laws_toGroutS.l0] at h
  | k + 1 => by
    have ih0 := laws_toGroutS.mono_l k
    · intro y0 y1 y2
      unfold laws_toGroutS.l0
      repeat' first
      | (with_reducible exact ih0 _ _ _)
      | (with_reducible exact LeO.refl _)
      | (with_reducible exact LeO.none _)
      | (with_reducible refine LeO.ite ?_ ?_)
      | (with_reducible refine LeO.bind ?_ (fun _ => ?_))
      | exact ih0 _ _ _
      | exact LeO.none _
      | refine LeO.ite ?_ ?_
      | refine LeO.bind ?_ (fun _ => ?_)
theorem laws_toGroutS.mono : ∀ a0 k, LeO (laws_toGroutS.f k a0) (laws_toGroutS.f (k + 1) a0) := by
  intro a0 k
  have ih0 := laws_toGroutS.mono_l k
  unfold laws_toGroutS.f
  repeat' first
      | (with_reducible exact ih0 _ _ _)
      | (with_reducible exact LeO.refl _)
      | (with_reducible exact LeO.none _)
      | (with_reducible refine LeO.ite ?_ ?_)
      | (with_reducible refine LeO.bind ?_ (fun _ => ?_))
      | exact ih0 _ _ _
      | exact LeO.none _
      | refine LeO.ite ?_ ?_
      | refine LeO.bind ?_ (fun _ => ?_)
set_option maxHeartbeats 8000000 in
set_option maxRecDepth 100000 in
theorem laws_toGroutS.calls (k : Nat) (A0 : Option Addr) (c0 : Nat) (l0 : List (S152)) (r : List (S148)) (w : World) (hr0 : Kd.C k152 w A0 l0.length l0) (hc0 : l0.length ≤ c0) (h : laws_toGroutS.f k l0 = some r) :
    Calls Try.prog 57 #[.slice A0 l0.length c0] w fun e w' => ∃ v0_ : Value, e = .returned (v0_) ∧ Kd.R k148 148 w' w.heap.size (fun _ => True) v0_ r ∧ Below w.heap.size w w' := by
  have hu152 := Try.underlying152
  have hu148 := Try.underlying148
  have HR0 := Aside0.mk hr0
  have HC0 := Aside0.mk hc0
  clear hr0 hc0
  have HB := Aside0.mk (Below.refl w.heap.size w)
  have H : (if 0 ≤ (l0.length : Int) then (if ((l0.length : Int) : Int).toNat ≤ 8796093022208 then (laws_toGroutS.l0 k l0 (List.replicate ((l0.length : Int) : Int).toNat z148) 0) else (none)) else (none)) = some r := h
  clear h
  by_cases c2 : 0 ≤ (l0.length : Int)
  · rw [if_pos c2] at H
    have c2b0 := eq_true c2
    have c2b1 : decide (0 ≤ (l0.length : Int)) = true := decide_eq_true c2
    clear c2
    by_cases c3 : ((l0.length : Int) : Int).toNat ≤ 8796093022208
    · rw [if_pos c3] at H
      have c3b0 := eq_true c3
      have c3b1 : decide (((l0.length : Int) : Int).toNat ≤ 8796093022208) = true := decide_eq_true c3
      clear c3
      obtain ⟨y878, hy878⟩ : ∃ y_ : List (S148), y_ = (List.replicate ((l0.length : Int) : Int).toNat z148) := ⟨_, rfl⟩
      replace H : (laws_toGroutS.l0 k l0 y878 0) = some r := by first | (rw [hy878]; with_reducible exact H) | (have H2_ := (Option.bind_some _ _).symm.trans H; rw [hy878]; with_reducible exact H2_) | (have H2_ := (Option.bind_some _ _).symm.trans H; with_reducible exact H2_) | with_reducible exact H | (rw [hy878]; exact H) | exact H
      have Ny878 := Aside0.mk hy878
      clear hy878
      have H' := Aside0.mk H
      clear H
      go_enter Try.func57, Try.ntmps57
      go_wp2_with (first | ((with_reducible refine gate_dst (N := 7) rfl ?_); refine Kd.R_make k148 _ 148 rfl (N := 7) rfl 88 _ _ rfl (l0.length : Int) rfl rfl Try.underlying88 (.agg #[(.int .i64 0), (.int .i64 0), (.int .i64 0), (.int .i64 0)]) 32 info148 rfl (by decide) (by omega) z148 (ok := fun _ => True) (okp := fun _ => True) (k148_mkM _ _ _ z148 ) (fun _ hk => hk) trivial (of_decide_eq_true (by first | (with_reducible assumption) | assumption)) (Nat.le_trans (Nat.mul_le_mul_right _ (of_decide_eq_true (by first | (with_reducible assumption) | assumption) : (l0.length : Int).toNat ≤ 8796093022208)) (by omega)) (Below.refl _ _) (Nat.le_refl _) ?_; intro v879 w4 ho5 hb hg_ hnew_; clear hg_ hnew_; (first | rw [← Ny878.out] at ho5 | (simp only [Int.reduceToNat] at ho5; rw [← Ny878.out] at ho5)); have n0_ := Aside0.mk (Kd.R_lower ho5 (below_size (by repeat (first | (with_reducible first | exact HB.out | apply below_alloc | apply pw_below_drewN | apply below_drew1) | exact HB.out)))); have n1_ := Aside0.mk (below_step (by repeat (first | (with_reducible first | exact HB.out | apply below_alloc | apply pw_below_drewN | apply below_drew1) | exact HB.out)) hb); clear HB; have HO880 := n0_; have HB := n1_; clear n0_ n1_; clear hb ho5))
      go_loopg [4] k (fun kq v4 w' => ∃ (x3_1 : List (S148)) (x4_1 : Int), v4 = .int .i64 x4_1 ∧ Aside0 (laws_toGroutS.l0 kq l0 x3_1 x4_1 = some r) ∧ Aside0 (kq ≤ k) ∧ Aside0 (Kd.R k148 148 w' w.heap.size (fun _ => True) v879 x3_1) ∧ Aside0 (Below w.heap.size w w'))
      case atStart => exact ⟨(y878), (0), (by first | rfl | (simp; done) | (simp [*]; done) | (simp [Int.tdiv_eq_ediv_of_nonneg, *]; done)), H', ⟨Nat.le_refl _⟩, ⟨by (with_reducible repeat (first | apply Kd.R_alloc | apply Kd.R_drewN | apply Kd.R_drew)); exact HO880.out⟩, ⟨by repeat (first | (with_reducible first | exact HB.out | apply below_alloc | apply pw_below_drewN | apply below_drew1) | exact HB.out)⟩⟩
      case round =>
        clear H'
        try clear c2
        try clear c2b0
        try clear c2b1
        try clear p2
        try clear c3
        try clear c3b0
        try clear c3b1
        try clear c5
        obtain ⟨x3_1, x4_1, rfl, HA, HK1, HO_3, HB⟩ := hrel
        cases gk with
        | zero => exact absurd HA.out (by simp [laws_toGroutS.l0])
        | succ k1 =>
          have H := HA.out
          clear HA
          simp only [laws_toGroutS.l0] at H
          by_cases c6 : x4_1 < (l0.length : Int)
          · rw [if_pos c6] at H
            have c6b0 : decide (x4_1 < (l0.length : Int)) = true := decide_eq_true c6
            clear c6
            by_cases c7 : 0 ≤ x4_1
            · rw [if_pos c7] at H
              have c7b0 : decide (0 ≤ x4_1) = true := decide_eq_true c7
              clear c7
              replace H := Option.bind_eq_some_iff.mp H
              obtain ⟨⟨t882, t883, t884, t885⟩, A80, H⟩ := H
              replace H : (if x4_1 < (x3_1.length : Int) then (laws_toGroutS.l0 k1 l0 (x3_1.set (x4_1 : Int).toNat (⟨t882, t883, t884, t885⟩ : S148)) (wrap64 (x4_1 + 1))) else (none)) = some r := H
              have A8 := Aside0.mk A80
              clear A80
              by_cases c9 : x4_1 < (x3_1.length : Int)
              · rw [if_pos c9] at H
                have c9b0 : decide (x4_1 < (x3_1.length : Int)) = true := decide_eq_true c9
                clear c9
                obtain ⟨y886, hy886⟩ : ∃ y_ : List (S148), y_ = (x3_1.set (x4_1 : Int).toNat (⟨t882, t883, t884, t885⟩ : S148)) := ⟨_, rfl⟩
                replace H : (laws_toGroutS.l0 k1 l0 y886 (wrap64 (x4_1 + 1))) = some r := by first | (rw [hy886]; with_reducible exact H) | (have H2_ := (Option.bind_some _ _).symm.trans H; rw [hy886]; with_reducible exact H2_) | (have H2_ := (Option.bind_some _ _).symm.trans H; with_reducible exact H2_) | with_reducible exact H | (rw [hy886]; exact H) | exact H
                have Ny886 := Aside0.mk hy886
                clear hy886
                have H' := Aside0.mk H
                clear H
                have p881 : 0 ≤ (x4_1 : Int) := of_decide_eq_true (by first | (with_reducible assumption) | assumption)
                have q881 : x4_1 < (l0.length : Int) := of_decide_eq_true (by first | (with_reducible assumption) | assumption)
                obtain ⟨ad881, e881, hx881_0, hx881_1, hx881_2, hx881_3⟩ := at_T152 HR0.out x4_1 p881 q881
                cases e881
                replace hx881_0 := (HB.out.cell (World.block_lt_of_cell? w _ hx881_0)).trans hx881_0
                replace hx881_1 := (HB.out.cell (World.block_lt_of_cell? w _ hx881_1)).trans hx881_1
                replace hx881_2 := (HB.out.cell (World.block_lt_of_cell? w _ hx881_2)).trans hx881_2
                replace hx881_3 := (HB.out.cell (World.block_lt_of_cell? w _ hx881_3)).trans hx881_3
                replace p881 := eq_true p881
                replace q881 := eq_true q881
                go_wp2_with (first | ((with_reducible refine gate_callee (f := 114) rfl ?_); refine goesL_ (some 20) rfl rfl Try.func114 (by kernel_rfl) rfl #[.agg #[.int .i64 ((rd_T152 l0 x4_1).f0), .int .i64 ((rd_T152 l0 x4_1).f1), .int .i64 ((rd_T152 l0 x4_1).f2), .int .i64 ((rd_T152 l0 x4_1).f3)]] rfl (by (try simp only [List.map_toArray, List.map_cons, List.map_nil]); first | done | rfl | (simp only [List.length_drop, List.length_take]; rfl)) ?_; (with_reducible refine (laws_toGrout.calls ((rd_T152 l0 x4_1).f0) ((rd_T152 l0 x4_1).f1) ((rd_T152 l0 x4_1).f2) ((rd_T152 l0 x4_1).f3) t882 t883 t884 t885 _ A8.out).mono ?_); rintro e w11 ⟨rfl, hb⟩; refine ⟨_, rfl, ?_⟩; have n0_ := Aside0.mk (Kd.R_below (by (with_reducible repeat (first | apply Kd.R_alloc | apply Kd.R_drewN | apply Kd.R_drew)); exact HO_3.out) hb); have n1_ := Aside0.mk (below_step (by repeat (first | (with_reducible first | exact HB.out | apply below_alloc | apply pw_below_drewN | apply below_drew1) | exact HB.out)) hb); clear HO_3; clear HB; have HO_3 := n0_; have HB := n1_; clear n0_ n1_; (try clear hb); (try clear hb2); (try clear hk); (try clear hi); have p10 : 0 ≤ (x4_1 : Int) := of_decide_eq_true (by first | (with_reducible assumption) | assumption); have q10 : (x4_1 : Int) < ((x3_1.length : Int) : Int) := of_decide_eq_true (by first | (with_reducible assumption) | assumption); obtain ⟨go10, co10, eo10, gb10, gl10, cl10, HG10⟩ := Kd.R_form HO_3.out (by omega); (first | cases eo10 | (injection eo10 with ea_ en_ ec_; (first | subst ea_ | (injection ea_ with ea_; subst ea_)); subst ec_; clear en_)); have GB10 := Aside0.mk gb10; have GG10 := Aside0.mk HG10; clear gb10 gl10 HG10; obtain ⟨ce10, hcl10, hM10, hcc10, hfr10⟩ := Kd.R_elem HO_3.out z148 (x4_1 : Int) p10 q10; obtain rfl := k148_openM hM10; have hx10_0 : w11.cell? ⟨go10, (x4_1 : Int).toNat * 4, none⟩ = some (.int .i64 ((rd_T148 x3_1 x4_1).f0)) := hcc10 0 _ rfl; have hx10_1 : w11.cell? ⟨go10, (x4_1 : Int).toNat * 4 + 1, none⟩ = some (.int .i64 ((rd_T148 x3_1 x4_1).f1)) := hcc10 1 _ rfl; have hx10_2 : w11.cell? ⟨go10, (x4_1 : Int).toNat * 4 + 2, none⟩ = some (.int .i64 ((rd_T148 x3_1 x4_1).f2)) := hcc10 2 _ rfl; have hx10_3 : w11.cell? ⟨go10, (x4_1 : Int).toNat * 4 + 3, none⟩ = some (.int .i64 ((rd_T148 x3_1 x4_1).f3)) := hcc10 3 _ rfl; have hf10_0 : w11.frozen? ⟨go10, (x4_1 : Int).toNat * 4, none⟩ = false := hfr10 0; have hf10_1 : w11.frozen? ⟨go10, (x4_1 : Int).toNat * 4 + 1, none⟩ = false := hfr10 1; have hf10_2 : w11.frozen? ⟨go10, (x4_1 : Int).toNat * 4 + 2, none⟩ = false := hfr10 2; have hf10_3 : w11.frozen? ⟨go10, (x4_1 : Int).toNat * 4 + 3, none⟩ = false := hfr10 3; clear hcl10 hcc10 hfr10 hM10; replace p10 := eq_true p10; replace q10 := eq_true q10; have HX12 := Aside0.mk (show Kd.R k148 148 w11 w.heap.size (fun _ => True) (.slice (some ⟨go10, 0, none⟩) x3_1.length co10) x3_1 from (by (with_reducible repeat (first | apply Kd.R_alloc | apply Kd.R_drewN | apply Kd.R_drew)); exact HO_3.out)); obtain ⟨ce12, hcl12, hM12, hcc12, hfr12⟩ := Kd.R_elem HX12.out z148 (x4_1 : Int) (of_decide_eq_true (by first | (with_reducible assumption) | assumption)) (by have h_ : (x4_1 : Int) < ((x3_1.length : Int) : Int) := of_decide_eq_true (by first | (with_reducible assumption) | assumption); first | exact h_ | (have e_ := (Kd.R_reads' HO_3.out).1; omega) | simpa using h_); obtain rfl := k148_openM hM12; have HP12 := Kd.R_seg HX12.out (x4_1 : Int) (of_decide_eq_true (by first | (with_reducible assumption) | assumption)) (by have h_ : (x4_1 : Int) < ((x3_1.length : Int) : Int) := of_decide_eq_true (by first | (with_reducible assumption) | assumption); first | exact h_ | (have e_ := (Kd.R_reads' HO_3.out).1; omega) | simpa using h_) (seg := [.int .i64 t882, .int .i64 t883, .int .i64 t884, .int .i64 t885]) (j := 0) hcl12 hcc12 (show 4 ≤ 4 from by decide) (x' := (⟨t882, t883, t884, t885⟩ : S148)) (k148_mkM _ _ _ (⟨t882, t883, t884, t885⟩ : S148) ) (fun _ hk => hk); have hx12_0 := hcc12 0 _ rfl; (try simp only [show (k148).sz = 4 from rfl, Nat.mul_one, Nat.add_zero] at hx12_0); have hf12_0 := hfr12 0; (try simp only [show (k148).sz = 4 from rfl, Nat.mul_one, Nat.add_zero] at hf12_0); have hx12_1 := hcc12 1 _ rfl; (try simp only [show (k148).sz = 4 from rfl, Nat.mul_one, Nat.add_zero] at hx12_1); have hf12_1 := hfr12 1; (try simp only [show (k148).sz = 4 from rfl, Nat.mul_one, Nat.add_zero] at hf12_1); have hx12_2 := hcc12 2 _ rfl; (try simp only [show (k148).sz = 4 from rfl, Nat.mul_one, Nat.add_zero] at hx12_2); have hf12_2 := hfr12 2; (try simp only [show (k148).sz = 4 from rfl, Nat.mul_one, Nat.add_zero] at hf12_2); have hx12_3 := hcc12 3 _ rfl; (try simp only [show (k148).sz = 4 from rfl, Nat.mul_one, Nat.add_zero] at hx12_3); have hf12_3 := hfr12 3; (try simp only [show (k148).sz = 4 from rfl, Nat.mul_one, Nat.add_zero] at hf12_3); clear hcl12 hcc12 hfr12 hM12) | ((with_reducible refine gate_store (t := 148) (p := 21) rfl ?_); refine store_event (t := 148) (p := 21) (v := ?vo_w13) (w1 := ((((w11.setCell ⟨go10, (x4_1 : Int).toNat * 4, none⟩ (.int .i64 t882)).setCell ⟨go10, (x4_1 : Int).toNat * 4 + 1, none⟩ (.int .i64 t883)).setCell ⟨go10, (x4_1 : Int).toNat * 4 + 2, none⟩ (.int .i64 t884)).setCell ⟨go10, (x4_1 : Int).toNat * 4 + 3, none⟩ (.int .i64 t885))) ?hg ?ho ?hn ?hr ?_; (case ho => rfl); (case hg => rfl); (case hn => rfl); (case hr => first | (go_simp; done) | (go_simp; rfl)); intro w13 hw; have hg : w11.grownBy w13 (some go10) := (by rw [hw]; exact HP12.2); have hp_ : Kd.R k148 148 w13 w.heap.size (fun _ => True) (.slice (some ⟨go10, 0, none⟩) x3_1.length co10) y886 := (by rw [hw, Ny886.out]; exact HP12.1); clear HP12; have n0_ := Aside0.mk (hp_); have n1_ := Aside0.mk ((by rw [hw]; exact below_set (below_set (below_set (below_set (HB.out) GB10.out) GB10.out) GB10.out) GB10.out : Below w.heap.size w w13)); clear HO_3; clear HB; have HO_3 := n0_; have HB := n1_; clear n0_ n1_; clear hg hw hp_))
                go_roundg k1
                case measure => have := HK1.out; omega
                case rel => exact ⟨(y886), (wrap64 (x4_1 + 1)), (by first | rfl | (simp; done) | (simp [*]; done) | (simp [Int.tdiv_eq_ediv_of_nonneg, *]; done)), H', ⟨by have := HK1.out; omega⟩, ⟨by (with_reducible repeat (first | apply Kd.R_alloc | apply Kd.R_drewN | apply Kd.R_drew)); exact HO_3.out⟩, ⟨by repeat (first | (with_reducible first | exact HB.out | apply below_alloc | apply pw_below_drewN | apply below_drew1) | exact HB.out)⟩⟩
              · rw [if_neg c9] at H
                exact absurd H (by simp)
            · rw [if_neg c7] at H
              exact absurd H (by simp)
          · rw [if_neg c6] at H
            have c6b0 : decide (x4_1 < (l0.length : Int)) = false := decide_eq_false c6
            clear c6
            obtain rfl := Option.some.inj H
            go_wp2
            go_ret
            exact ⟨_, by first | rfl | (simp [errW_none, errW_some] <;> rfl) | (simp [*, errW_none, errW_some] <;> rfl) | (simp [Int.tdiv_eq_ediv_of_nonneg, *]; done), by (with_reducible repeat (first | apply Kd.R_alloc | apply Kd.R_drewN | apply Kd.R_drew)); exact HO_3.out, by repeat (first | (with_reducible first | exact HB.out | apply below_alloc | apply pw_below_drewN | apply below_drew1) | exact HB.out)⟩
    · rw [if_neg c3] at H
      exact absurd H (by simp)
  · rw [if_neg c2] at H
    exact absurd H (by simp)

end Go.Proofs.Ytajndapolblhmab.P
-- Walks of this claim's functions, laid by a program of this session.
namespace Go.Proofs.Ytajndapolblhmab.P
open Go.RowKit Go.Proofs.YtajndapolblhmabW.PrintWords Go.Proofs.YtajndapolblhmabW.PrintLast Go.Proofs.YtajndapolblhmabW.PrintMore
attribute [local go_sem] max2_int min2_int max_two min_two max_three min_three max_four min_four   -- for this text's walks alone
set_option linter.unusedVariables false
set_option linter.unusedSimpArgs false

/-! ### impl_within: function 77 -/
def impl_within.f (a0 : Int) (a1 : Int) (a2 : Int) : Option (Bool) := if a1 ≤ a0 then (some (decide (a0 ≤ a2))) else (some false)
set_option maxHeartbeats 8000000 in
set_option maxRecDepth 100000 in
theorem impl_within.calls (a0 : Int) (a1 : Int) (a2 : Int) (r : Bool) (w : World) (h : impl_within.f a0 a1 a2 = some r) :
    Calls Try.prog 77 #[.int .i64 a0, .int .i64 a1, .int .i64 a2] w fun e w' => e = .returned (.bool r) ∧ Drawn0 w w' := by
  have H : (if a1 ≤ a0 then (some (decide (a0 ≤ a2))) else (some false)) = some r := h
  clear h
  by_cases c4 : a1 ≤ a0
  · rw [if_pos c4] at H
    have c4b0 : decide (a1 ≤ a0) = true := decide_eq_true c4
    clear c4
    obtain rfl := Option.some.inj H
    go_enter Try.func77, Try.ntmps77
    go_wp2
    go_ret
    exact ⟨by first | rfl | (simp; done) | (simp [*]; done) | (simp [Int.tdiv_eq_ediv_of_nonneg, *]; done), by repeat (first | exact Drawn0.refl _ | apply Drawn0.step)⟩
  · rw [if_neg c4] at H
    have c4b0 : decide (a1 ≤ a0) = false := decide_eq_false c4
    clear c4
    obtain rfl := Option.some.inj H
    go_enter Try.func77, Try.ntmps77
    go_wp2
    go_ret
    exact ⟨by first | rfl | (simp; done) | (simp [*]; done) | (simp [Int.tdiv_eq_ediv_of_nonneg, *]; done), by repeat (first | exact Drawn0.refl _ | apply Drawn0.step)⟩

end Go.Proofs.Ytajndapolblhmab.P
-- Walks of this claim's functions, laid by a program of this session.
namespace Go.Proofs.Ytajndapolblhmab.P
open Go.RowKit Go.Proofs.YtajndapolblhmabW.PrintWords Go.Proofs.YtajndapolblhmabW.PrintLast Go.Proofs.YtajndapolblhmabW.PrintMore
attribute [local go_sem] max2_int min2_int max_two min_two max_three min_three max_four min_four   -- for this text's walks alone
set_option linter.unusedVariables false
set_option linter.unusedSimpArgs false

/-! ### impl_ValidLosses: function 71 -/
def impl_ValidLosses.l0 : Nat → List (S107) → List (S107) → Int → Int → Option (Bool)
  | 0, _, _, _, _ => none
  | k + 1, x0, x5, x6, x7 => if x7 < x6 then (if 0 ≤ x7 then (if x7 < (x5.length : Int) then ((impl_within.f ((rd_T107 x5 x7).f2) 0 5).bind fun t103 => (if t103 = true then ((impl_within.f ((rd_T107 x5 x7).f1) 0 100000).bind fun t104 => (if t104 = true then ((impl_within.f ((rd_T107 x5 x7).f0) ((rd_T107 x5 x7).f2) (wrap64 (23 - ((rd_T107 x5 x7).f2)))).bind fun t105 => (if t105 = true then (impl_ValidLosses.l0 k x0 x5 x6 (wrap64 (x7 + 1))) else (some false))) else (some false))) else (some false))) else (none)) else (none)) else (some (decide ((x0.length : Int) ≤ 12)))
def impl_ValidLosses.f (k : Nat) (l0 : List (S107)) : Option (Bool) := impl_ValidLosses.l0 k l0 l0 (l0.length : Int) 0
theorem impl_ValidLosses.mono_l : ∀ k, (∀ y0 y1 y2 y3, LeO (impl_ValidLosses.l0 k y0 y1 y2 y3) (impl_ValidLosses.l0 (k + 1) y0 y1 y2 y3))
  | 0 => fun _ _ _ _ r h => by simp [impl_ValidLosses.l0] at h
  | k + 1 => by
    have ih0 := impl_ValidLosses.mono_l k
    · intro y0 y1 y2 y3
      unfold impl_ValidLosses.l0
      repeat' first
      | (with_reducible exact ih0 _ _ _ _)
      | (with_reducible exact LeO.refl _)
      | (with_reducible exact LeO.none _)
      | (with_reducible refine LeO.ite ?_ ?_)
      | (with_reducible refine LeO.bind ?_ (fun _ => ?_))
      | exact ih0 _ _ _ _
      | exact LeO.none _
      | refine LeO.ite ?_ ?_
      | refine LeO.bind ?_ (fun _ => ?_)
theorem impl_ValidLosses.mono : ∀ a0 k, LeO (impl_ValidLosses.f k a0) (impl_ValidLosses.f (k + 1) a0) := by
  intro a0 k
  have ih0 := impl_ValidLosses.mono_l k
  unfold impl_ValidLosses.f
  repeat' first
      | (with_reducible exact ih0 _ _ _ _)
      | (with_reducible exact LeO.refl _)
      | (with_reducible exact LeO.none _)
      | (with_reducible refine LeO.ite ?_ ?_)
      | (with_reducible refine LeO.bind ?_ (fun _ => ?_))
      | exact ih0 _ _ _ _
      | exact LeO.none _
      | refine LeO.ite ?_ ?_
      | refine LeO.bind ?_ (fun _ => ?_)
set_option maxHeartbeats 8000000 in
set_option maxRecDepth 100000 in
theorem impl_ValidLosses.calls (k : Nat) (A0 : Option Addr) (c0 : Nat) (l0 : List (S107)) (r : Bool) (w : World) (hr0 : Kd.C k107 w A0 l0.length l0) (hc0 : l0.length ≤ c0) (h : impl_ValidLosses.f k l0 = some r) :
    Calls Try.prog 71 #[.slice A0 l0.length c0] w fun e w' => e = .returned (.bool r) ∧ Below w.heap.size w w' := by
  have hu107 := Try.underlying107
  have HR0 := Aside0.mk hr0
  have HC0 := Aside0.mk hc0
  clear hr0 hc0
  have HB := Aside0.mk (Below.refl w.heap.size w)
  have H : (impl_ValidLosses.l0 k l0 l0 (l0.length : Int) 0) = some r := h
  clear h
  have H' := Aside0.mk H
  clear H
  go_enter Try.func71, Try.ntmps71
  go_wp2
  go_loopg [7] k (fun kq v7 w' => ∃ (x7_1 : Int), v7 = .int .i64 x7_1 ∧ Aside0 (impl_ValidLosses.l0 kq l0 l0 (l0.length : Int) x7_1 = some r) ∧ Aside0 (kq ≤ k) ∧ Aside0 (Below w.heap.size w w'))
  case atStart => exact ⟨(0), (by first | rfl | (simp; done) | (simp [*]; done) | (simp [Int.tdiv_eq_ediv_of_nonneg, *]; done)), H', ⟨Nat.le_refl _⟩, ⟨by repeat (first | (with_reducible first | exact HB.out | apply below_alloc | apply pw_below_drewN | apply below_drew1) | exact HB.out)⟩⟩
  case round =>
    clear H'
    obtain ⟨x7_1, rfl, HA, HK1, HB⟩ := hrel
    cases gk with
    | zero => exact absurd HA.out (by simp [impl_ValidLosses.l0])
    | succ k1 =>
      have H := HA.out
      clear HA
      simp only [impl_ValidLosses.l0] at H
      by_cases c2 : x7_1 < (l0.length : Int)
      · rw [if_pos c2] at H
        have c2b0 : decide (x7_1 < (l0.length : Int)) = true := decide_eq_true c2
        clear c2
        by_cases c3 : 0 ≤ x7_1
        · rw [if_pos c3] at H
          have c3b0 : decide (0 ≤ x7_1) = true := decide_eq_true c3
          clear c3
          by_cases c4 : x7_1 < (l0.length : Int)
          · rw [if_pos c4] at H
            have c4b0 : decide (x7_1 < (l0.length : Int)) = true := decide_eq_true c4
            clear c4
            replace H := Option.bind_eq_some_iff.mp H
            obtain ⟨t103, A50, H⟩ := H
            replace H : (if t103 = true then ((impl_within.f ((rd_T107 l0 x7_1).f1) 0 100000).bind fun t104 => (if t104 = true then ((impl_within.f ((rd_T107 l0 x7_1).f0) ((rd_T107 l0 x7_1).f2) (wrap64 (23 - ((rd_T107 l0 x7_1).f2)))).bind fun t105 => (if t105 = true then (impl_ValidLosses.l0 k1 l0 l0 (l0.length : Int) (wrap64 (x7_1 + 1))) else (some false))) else (some false))) else (some false)) = some r := H
            have A5 := Aside0.mk A50
            clear A50
            by_cases c6 : t103 = true
            · subst c6
              have H1 : ((impl_within.f ((rd_T107 l0 x7_1).f1) 0 100000).bind fun t104 => (if t104 = true then ((impl_within.f ((rd_T107 l0 x7_1).f0) ((rd_T107 l0 x7_1).f2) (wrap64 (23 - ((rd_T107 l0 x7_1).f2)))).bind fun t105 => (if t105 = true then (impl_ValidLosses.l0 k1 l0 l0 (l0.length : Int) (wrap64 (x7_1 + 1))) else (some false))) else (some false))) = some r := by rw [if_pos rfl] at H; exact H
              clear H
              have H := H1
              clear H1
              replace H := Option.bind_eq_some_iff.mp H
              obtain ⟨t104, A70, H⟩ := H
              replace H : (if t104 = true then ((impl_within.f ((rd_T107 l0 x7_1).f0) ((rd_T107 l0 x7_1).f2) (wrap64 (23 - ((rd_T107 l0 x7_1).f2)))).bind fun t105 => (if t105 = true then (impl_ValidLosses.l0 k1 l0 l0 (l0.length : Int) (wrap64 (x7_1 + 1))) else (some false))) else (some false)) = some r := H
              have A7 := Aside0.mk A70
              clear A70
              by_cases c8 : t104 = true
              · subst c8
                have H1 : ((impl_within.f ((rd_T107 l0 x7_1).f0) ((rd_T107 l0 x7_1).f2) (wrap64 (23 - ((rd_T107 l0 x7_1).f2)))).bind fun t105 => (if t105 = true then (impl_ValidLosses.l0 k1 l0 l0 (l0.length : Int) (wrap64 (x7_1 + 1))) else (some false))) = some r := by rw [if_pos rfl] at H; exact H
                clear H
                have H := H1
                clear H1
                replace H := Option.bind_eq_some_iff.mp H
                obtain ⟨t105, A90, H⟩ := H
                replace H : (if t105 = true then (impl_ValidLosses.l0 k1 l0 l0 (l0.length : Int) (wrap64 (x7_1 + 1))) else (some false)) = some r := H
                have A9 := Aside0.mk A90
                clear A90
                by_cases c10 : t105 = true
                · subst c10
                  have H1 : (impl_ValidLosses.l0 k1 l0 l0 (l0.length : Int) (wrap64 (x7_1 + 1))) = some r := by rw [if_pos rfl] at H; exact H
                  clear H
                  have H := H1
                  clear H1
                  have H' := Aside0.mk H
                  clear H
                  have p101 : 0 ≤ (x7_1 : Int) := of_decide_eq_true (by first | (with_reducible assumption) | assumption)
                  have q101 : x7_1 < (l0.length : Int) := of_decide_eq_true (by first | (with_reducible assumption) | assumption)
                  obtain ⟨ad101, e101, hx101_0, hx101_1, hx101_2⟩ := at_T107 HR0.out x7_1 p101 q101
                  cases e101
                  replace hx101_0 := (HB.out.cell (World.block_lt_of_cell? w _ hx101_0)).trans hx101_0
                  replace hx101_1 := (HB.out.cell (World.block_lt_of_cell? w _ hx101_1)).trans hx101_1
                  replace hx101_2 := (HB.out.cell (World.block_lt_of_cell? w _ hx101_2)).trans hx101_2
                  replace p101 := eq_true p101
                  replace q101 := eq_true q101
                  go_wp2_with (first | ((with_reducible refine gate_dst (N := 4) rfl ?_); refine box_event ?hg (N := 4) ?hd (cs := #[.int .i64 0, .int .i64 0, .int .i64 0]) (t := 107) ?hr ?_; (case hd => rfl); (case hg => rfl); (case hr => first | (go_simp; done) | (go_simp; rfl)); intro gb102 hg w11 hbox hb; have n0_ := Aside0.mk (below_step (by repeat (first | (with_reducible first | exact HB.out | apply below_alloc | apply pw_below_drewN | apply below_drew1) | exact HB.out)) hb); have n1_ := Aside0.mk (hbox); have n2_ := Aside0.mk ((by rw [hg]; exact (below_size (by repeat (first | (with_reducible first | exact HB.out | apply below_alloc | apply pw_below_drewN | apply below_drew1) | exact HB.out))) : w.heap.size ≤ gb102)); have n3_ := Aside0.mk ((by rw [hg]; exact (below_size (by repeat (first | (with_reducible first | exact HB.out | apply below_alloc | apply pw_below_drewN | apply below_drew1) | exact HB.out))) : w.heap.size ≤ gb102)); clear HB; have HB := n0_; have BK102 := n1_; have GW102 := n2_; have GE102 := n3_; clear n0_ n1_ n2_ n3_; clear hb hbox hg; have hcz12_0 : w11.cell? ⟨gb102, 0, none⟩ = some (.int .i64 0) := (blk_cell BK102.out 0).trans rfl; have hcz12_1 : w11.cell? ⟨gb102, 1, none⟩ = some (.int .i64 0) := (blk_cell BK102.out 1).trans rfl; have hcz12_2 : w11.cell? ⟨gb102, 2, none⟩ = some (.int .i64 0) := (blk_cell BK102.out 2).trans rfl; have hfz12_0 := blk_frozen BK102.out 0; have hfz12_1 := blk_frozen BK102.out 1; have hfz12_2 := blk_frozen BK102.out 2) | ((with_reducible refine gate_callee (f := 77) rfl ?_); refine goesL_ (some 13) rfl rfl Try.func77 (by kernel_rfl) rfl #[.int .i64 ((rd_T107 l0 x7_1).f2), .int .i64 0, .int .i64 5] rfl (by (try simp only [List.map_toArray, List.map_cons, List.map_nil]); first | done | rfl | (simp only [List.length_drop, List.length_take]; rfl)) ?_; (with_reducible refine (impl_within.calls ((rd_T107 l0 x7_1).f2) 0 5 true _ A5.out).mono ?_); rintro e w' ⟨rfl, ⟨nd, rfl⟩⟩; refine ⟨_, rfl, ?_⟩) | (go_at_call 77; (with_reducible refine (impl_within.calls ((rd_T107 l0 x7_1).f1) 0 100000 true _ A7.out).mono ?_); rintro e w' ⟨rfl, ⟨nd, rfl⟩⟩) | (go_at_call 77; (with_reducible refine (impl_within.calls ((rd_T107 l0 x7_1).f0) ((rd_T107 l0 x7_1).f2) (wrap64 (23 - ((rd_T107 l0 x7_1).f2))) true _ A9.out).mono ?_); rintro e w' ⟨rfl, ⟨nd, rfl⟩⟩))
                  go_roundg k1
                  case measure => have := HK1.out; omega
                  case rel => exact ⟨(wrap64 (x7_1 + 1)), (by first | rfl | (simp; done) | (simp [*]; done) | (simp [Int.tdiv_eq_ediv_of_nonneg, *]; done)), H', ⟨by have := HK1.out; omega⟩, ⟨by repeat (first | (with_reducible first | exact HB.out | apply below_alloc | apply pw_below_drewN | apply below_drew1 | refine below_set ?_ GE102.out) | exact HB.out)⟩⟩
                · replace c10 := Bool.eq_false_iff.mpr c10
                  subst c10
                  have H1 : (some false) = some r := by rw [if_neg (show ¬ (false = true) by decide)] at H; exact H
                  clear H
                  have H := H1
                  clear H1
                  obtain rfl := Option.some.inj H
                  have p101 : 0 ≤ (x7_1 : Int) := of_decide_eq_true (by first | (with_reducible assumption) | assumption)
                  have q101 : x7_1 < (l0.length : Int) := of_decide_eq_true (by first | (with_reducible assumption) | assumption)
                  obtain ⟨ad101, e101, hx101_0, hx101_1, hx101_2⟩ := at_T107 HR0.out x7_1 p101 q101
                  cases e101
                  replace hx101_0 := (HB.out.cell (World.block_lt_of_cell? w _ hx101_0)).trans hx101_0
                  replace hx101_1 := (HB.out.cell (World.block_lt_of_cell? w _ hx101_1)).trans hx101_1
                  replace hx101_2 := (HB.out.cell (World.block_lt_of_cell? w _ hx101_2)).trans hx101_2
                  replace p101 := eq_true p101
                  replace q101 := eq_true q101
                  go_wp2_with (first | ((with_reducible refine gate_dst (N := 4) rfl ?_); refine box_event ?hg (N := 4) ?hd (cs := #[.int .i64 0, .int .i64 0, .int .i64 0]) (t := 107) ?hr ?_; (case hd => rfl); (case hg => rfl); (case hr => first | (go_simp; done) | (go_simp; rfl)); intro gb102 hg w13 hbox hb; have n0_ := Aside0.mk (below_step (by repeat (first | (with_reducible first | exact HB.out | apply below_alloc | apply pw_below_drewN | apply below_drew1) | exact HB.out)) hb); have n1_ := Aside0.mk (hbox); have n2_ := Aside0.mk ((by rw [hg]; exact (below_size (by repeat (first | (with_reducible first | exact HB.out | apply below_alloc | apply pw_below_drewN | apply below_drew1) | exact HB.out))) : w.heap.size ≤ gb102)); have n3_ := Aside0.mk ((by rw [hg]; exact (below_size (by repeat (first | (with_reducible first | exact HB.out | apply below_alloc | apply pw_below_drewN | apply below_drew1) | exact HB.out))) : w.heap.size ≤ gb102)); clear HB; have HB := n0_; have BK102 := n1_; have GW102 := n2_; have GE102 := n3_; clear n0_ n1_ n2_ n3_; clear hb hbox hg; have hcz14_0 : w13.cell? ⟨gb102, 0, none⟩ = some (.int .i64 0) := (blk_cell BK102.out 0).trans rfl; have hcz14_1 : w13.cell? ⟨gb102, 1, none⟩ = some (.int .i64 0) := (blk_cell BK102.out 1).trans rfl; have hcz14_2 : w13.cell? ⟨gb102, 2, none⟩ = some (.int .i64 0) := (blk_cell BK102.out 2).trans rfl; have hfz14_0 := blk_frozen BK102.out 0; have hfz14_1 := blk_frozen BK102.out 1; have hfz14_2 := blk_frozen BK102.out 2) | ((with_reducible refine gate_callee (f := 77) rfl ?_); refine goesL_ (some 13) rfl rfl Try.func77 (by kernel_rfl) rfl #[.int .i64 ((rd_T107 l0 x7_1).f2), .int .i64 0, .int .i64 5] rfl (by (try simp only [List.map_toArray, List.map_cons, List.map_nil]); first | done | rfl | (simp only [List.length_drop, List.length_take]; rfl)) ?_; (with_reducible refine (impl_within.calls ((rd_T107 l0 x7_1).f2) 0 5 true _ A5.out).mono ?_); rintro e w' ⟨rfl, ⟨nd, rfl⟩⟩; refine ⟨_, rfl, ?_⟩) | (go_at_call 77; (with_reducible refine (impl_within.calls ((rd_T107 l0 x7_1).f1) 0 100000 true _ A7.out).mono ?_); rintro e w' ⟨rfl, ⟨nd, rfl⟩⟩) | (go_at_call 77; (with_reducible refine (impl_within.calls ((rd_T107 l0 x7_1).f0) ((rd_T107 l0 x7_1).f2) (wrap64 (23 - ((rd_T107 l0 x7_1).f2))) false _ A9.out).mono ?_); rintro e w' ⟨rfl, ⟨nd, rfl⟩⟩))
                  go_ret
                  exact ⟨by first | rfl | (simp [errW_none, errW_some] <;> rfl) | (simp [*, errW_none, errW_some] <;> rfl) | (simp [Int.tdiv_eq_ediv_of_nonneg, *]; done), by repeat (first | (with_reducible first | exact HB.out | apply below_alloc | apply pw_below_drewN | apply below_drew1 | refine below_set ?_ GE102.out) | exact HB.out)⟩
              · replace c8 := Bool.eq_false_iff.mpr c8
                subst c8
                have H1 : (some false) = some r := by rw [if_neg (show ¬ (false = true) by decide)] at H; exact H
                clear H
                have H := H1
                clear H1
                obtain rfl := Option.some.inj H
                have p101 : 0 ≤ (x7_1 : Int) := of_decide_eq_true (by first | (with_reducible assumption) | assumption)
                have q101 : x7_1 < (l0.length : Int) := of_decide_eq_true (by first | (with_reducible assumption) | assumption)
                obtain ⟨ad101, e101, hx101_0, hx101_1, hx101_2⟩ := at_T107 HR0.out x7_1 p101 q101
                cases e101
                replace hx101_0 := (HB.out.cell (World.block_lt_of_cell? w _ hx101_0)).trans hx101_0
                replace hx101_1 := (HB.out.cell (World.block_lt_of_cell? w _ hx101_1)).trans hx101_1
                replace hx101_2 := (HB.out.cell (World.block_lt_of_cell? w _ hx101_2)).trans hx101_2
                replace p101 := eq_true p101
                replace q101 := eq_true q101
                go_wp2_with (first | ((with_reducible refine gate_dst (N := 4) rfl ?_); refine box_event ?hg (N := 4) ?hd (cs := #[.int .i64 0, .int .i64 0, .int .i64 0]) (t := 107) ?hr ?_; (case hd => rfl); (case hg => rfl); (case hr => first | (go_simp; done) | (go_simp; rfl)); intro gb102 hg w15 hbox hb; have n0_ := Aside0.mk (below_step (by repeat (first | (with_reducible first | exact HB.out | apply below_alloc | apply pw_below_drewN | apply below_drew1) | exact HB.out)) hb); have n1_ := Aside0.mk (hbox); have n2_ := Aside0.mk ((by rw [hg]; exact (below_size (by repeat (first | (with_reducible first | exact HB.out | apply below_alloc | apply pw_below_drewN | apply below_drew1) | exact HB.out))) : w.heap.size ≤ gb102)); have n3_ := Aside0.mk ((by rw [hg]; exact (below_size (by repeat (first | (with_reducible first | exact HB.out | apply below_alloc | apply pw_below_drewN | apply below_drew1) | exact HB.out))) : w.heap.size ≤ gb102)); clear HB; have HB := n0_; have BK102 := n1_; have GW102 := n2_; have GE102 := n3_; clear n0_ n1_ n2_ n3_; clear hb hbox hg; have hcz16_0 : w15.cell? ⟨gb102, 0, none⟩ = some (.int .i64 0) := (blk_cell BK102.out 0).trans rfl; have hcz16_1 : w15.cell? ⟨gb102, 1, none⟩ = some (.int .i64 0) := (blk_cell BK102.out 1).trans rfl; have hcz16_2 : w15.cell? ⟨gb102, 2, none⟩ = some (.int .i64 0) := (blk_cell BK102.out 2).trans rfl; have hfz16_0 := blk_frozen BK102.out 0; have hfz16_1 := blk_frozen BK102.out 1; have hfz16_2 := blk_frozen BK102.out 2) | ((with_reducible refine gate_callee (f := 77) rfl ?_); refine goesL_ (some 13) rfl rfl Try.func77 (by kernel_rfl) rfl #[.int .i64 ((rd_T107 l0 x7_1).f2), .int .i64 0, .int .i64 5] rfl (by (try simp only [List.map_toArray, List.map_cons, List.map_nil]); first | done | rfl | (simp only [List.length_drop, List.length_take]; rfl)) ?_; (with_reducible refine (impl_within.calls ((rd_T107 l0 x7_1).f2) 0 5 true _ A5.out).mono ?_); rintro e w' ⟨rfl, ⟨nd, rfl⟩⟩; refine ⟨_, rfl, ?_⟩) | (go_at_call 77; (with_reducible refine (impl_within.calls ((rd_T107 l0 x7_1).f1) 0 100000 false _ A7.out).mono ?_); rintro e w' ⟨rfl, ⟨nd, rfl⟩⟩))
                go_ret
                exact ⟨by first | rfl | (simp [errW_none, errW_some] <;> rfl) | (simp [*, errW_none, errW_some] <;> rfl) | (simp [Int.tdiv_eq_ediv_of_nonneg, *]; done), by repeat (first | (with_reducible first | exact HB.out | apply below_alloc | apply pw_below_drewN | apply below_drew1 | refine below_set ?_ GE102.out) | exact HB.out)⟩
            · replace c6 := Bool.eq_false_iff.mpr c6
              subst c6
              have H1 : (some false) = some r := by rw [if_neg (show ¬ (false = true) by decide)] at H; exact H
              clear H
              have H := H1
              clear H1
              obtain rfl := Option.some.inj H
              have p101 : 0 ≤ (x7_1 : Int) := of_decide_eq_true (by first | (with_reducible assumption) | assumption)
              have q101 : x7_1 < (l0.length : Int) := of_decide_eq_true (by first | (with_reducible assumption) | assumption)
              obtain ⟨ad101, e101, hx101_0, hx101_1, hx101_2⟩ := at_T107 HR0.out x7_1 p101 q101
              cases e101
              replace hx101_0 := (HB.out.cell (World.block_lt_of_cell? w _ hx101_0)).trans hx101_0
              replace hx101_1 := (HB.out.cell (World.block_lt_of_cell? w _ hx101_1)).trans hx101_1
              replace hx101_2 := (HB.out.cell (World.block_lt_of_cell? w _ hx101_2)).trans hx101_2
              replace p101 := eq_true p101
              replace q101 := eq_true q101
              go_wp2_with (first | ((with_reducible refine gate_dst (N := 4) rfl ?_); refine box_event ?hg (N := 4) ?hd (cs := #[.int .i64 0, .int .i64 0, .int .i64 0]) (t := 107) ?hr ?_; (case hd => rfl); (case hg => rfl); (case hr => first | (go_simp; done) | (go_simp; rfl)); intro gb102 hg w17 hbox hb; have n0_ := Aside0.mk (below_step (by repeat (first | (with_reducible first | exact HB.out | apply below_alloc | apply pw_below_drewN | apply below_drew1) | exact HB.out)) hb); have n1_ := Aside0.mk (hbox); have n2_ := Aside0.mk ((by rw [hg]; exact (below_size (by repeat (first | (with_reducible first | exact HB.out | apply below_alloc | apply pw_below_drewN | apply below_drew1) | exact HB.out))) : w.heap.size ≤ gb102)); have n3_ := Aside0.mk ((by rw [hg]; exact (below_size (by repeat (first | (with_reducible first | exact HB.out | apply below_alloc | apply pw_below_drewN | apply below_drew1) | exact HB.out))) : w.heap.size ≤ gb102)); clear HB; have HB := n0_; have BK102 := n1_; have GW102 := n2_; have GE102 := n3_; clear n0_ n1_ n2_ n3_; clear hb hbox hg; have hcz18_0 : w17.cell? ⟨gb102, 0, none⟩ = some (.int .i64 0) := (blk_cell BK102.out 0).trans rfl; have hcz18_1 : w17.cell? ⟨gb102, 1, none⟩ = some (.int .i64 0) := (blk_cell BK102.out 1).trans rfl; have hcz18_2 : w17.cell? ⟨gb102, 2, none⟩ = some (.int .i64 0) := (blk_cell BK102.out 2).trans rfl; have hfz18_0 := blk_frozen BK102.out 0; have hfz18_1 := blk_frozen BK102.out 1; have hfz18_2 := blk_frozen BK102.out 2) | ((with_reducible refine gate_callee (f := 77) rfl ?_); refine goesL_ (some 13) rfl rfl Try.func77 (by kernel_rfl) rfl #[.int .i64 ((rd_T107 l0 x7_1).f2), .int .i64 0, .int .i64 5] rfl (by (try simp only [List.map_toArray, List.map_cons, List.map_nil]); first | done | rfl | (simp only [List.length_drop, List.length_take]; rfl)) ?_; (with_reducible refine (impl_within.calls ((rd_T107 l0 x7_1).f2) 0 5 false _ A5.out).mono ?_); rintro e w' ⟨rfl, ⟨nd, rfl⟩⟩; refine ⟨_, rfl, ?_⟩))
              go_ret
              exact ⟨by first | rfl | (simp [errW_none, errW_some] <;> rfl) | (simp [*, errW_none, errW_some] <;> rfl) | (simp [Int.tdiv_eq_ediv_of_nonneg, *]; done), by repeat (first | (with_reducible first | exact HB.out | apply below_alloc | apply pw_below_drewN | apply below_drew1 | refine below_set ?_ GE102.out) | exact HB.out)⟩
          · rw [if_neg c4] at H
            exact absurd H (by simp)
        · rw [if_neg c3] at H
          exact absurd H (by simp)
      · rw [if_neg c2] at H
        have c2b0 : decide (x7_1 < (l0.length : Int)) = false := decide_eq_false c2
        clear c2
        obtain rfl := Option.some.inj H
        go_wp2
        go_ret
        exact ⟨by first | rfl | (simp [errW_none, errW_some] <;> rfl) | (simp [*, errW_none, errW_some] <;> rfl) | (simp [Int.tdiv_eq_ediv_of_nonneg, *]; done), by repeat (first | (with_reducible first | exact HB.out | apply below_alloc | apply pw_below_drewN | apply below_drew1) | exact HB.out)⟩

end Go.Proofs.Ytajndapolblhmab.P
-- Walks of this claim's functions, laid by a program of this session.
namespace Go.Proofs.Ytajndapolblhmab.P
open Go.RowKit Go.Proofs.YtajndapolblhmabW.PrintWords Go.Proofs.YtajndapolblhmabW.PrintLast Go.Proofs.YtajndapolblhmabW.PrintMore
attribute [local go_sem] max2_int min2_int max_two min_two max_three min_three max_four min_four   -- for this text's walks alone
set_option linter.unusedVariables false
set_option linter.unusedSimpArgs false

/-! ### impl_areWithin: function 76 -/
def impl_areWithin.all (lo hi : Int) (l : List Int) : Bool := l.all fun n => decide (lo ≤ n ∧ n ≤ hi)
def impl_areWithin.f (l0 : List Int) (a1 : Int) (a2 : Int) : Option (Bool) := some (impl_areWithin.all a1 a2 l0)
theorem impl_areWithin.within_is (a b c : Int) : impl_within.f a b c = some (decide (b ≤ a ∧ a ≤ c)) := by
  unfold impl_within.f
  by_cases h : b ≤ a <;> simp [h]
theorem impl_areWithin.clo (b1 b2 : Nat) (n lo hi : Int) (w : World) (h1 : w.cell? ⟨b1, 0, none⟩ = some (.int .i64 lo)) (h2 : w.cell? ⟨b2, 0, none⟩ = some (.int .i64 hi)) :
    Calls Try.prog 129 #[.int .i64 n, .pointer (some ⟨b1, 0, none⟩), .pointer (some ⟨b2, 0, none⟩)] w fun e w' => e = .returned (.bool (!decide (lo ≤ n ∧ n ≤ hi))) ∧ Drawn0 w w' := by
  obtain ⟨t, ht⟩ : ∃ t, impl_within.f n lo hi = some t := ⟨_, impl_areWithin.within_is n lo hi⟩
  have e : decide (lo ≤ n ∧ n ≤ hi) = t := by rw [impl_areWithin.within_is] at ht; exact Option.some.inj ht
  rw [e]
  clear e
  have HT := Aside0.mk ht
  clear ht
  go_enter Try.func129, Try.ntmps129
  go_wp2_with (first | (go_at_call 77; (with_reducible refine (impl_within.calls n lo hi t _ HT.out).mono ?_); rintro e w' ⟨rfl, ⟨nd, rfl⟩⟩))
  go_ret
  exact ⟨by first | rfl | (simp; done) | (simp [*]; done) | (simp [Int.tdiv_eq_ediv_of_nonneg, *]; done), by repeat (first | exact Drawn0.refl _ | apply Drawn0.step)⟩
set_option maxHeartbeats 1000000 in
set_option maxRecDepth 100000 in
theorem impl_areWithin.ix (A0 : Option Addr) (c0 : Nat) (l0 : List Int) (b1 b2 : Nat) (lo hi : Int) (w : World) (hr0 : Kd.C (Kd.int .i64) w A0 l0.length l0) (hc0 : l0.length ≤ c0)
    (h1 : w.cell? ⟨b1, 0, none⟩ = some (.int .i64 lo)) (h2 : w.cell? ⟨b2, 0, none⟩ = some (.int .i64 hi)) :
    Calls Try.prog 143 #[.slice A0 l0.length c0, .func (.func 129) #[] #[.pointer (some ⟨b1, 0, none⟩), .pointer (some ⟨b2, 0, none⟩)]] w fun e w' => ∃ v : Int, e = .returned (.int .i64 v) ∧ Aside0 (decide (0 ≤ v) = !impl_areWithin.all lo hi l0) ∧ Drawn0 w w' := by
  have HR0 := Aside0.mk hr0
  have HC0 := Aside0.mk hc0
  clear hr0 hc0
  have hlen : l0.length ≤ 9223372036854775807 := HR0.out.2.1
  go_enter Try.func143, Try.ntmps143
  go_wp2
  go_loopg [8] l0.length (fun kq v8 w' => ∃ x : Int, v8 = .int .i64 x ∧ Aside0 (0 ≤ x ∧ x ≤ l0.length) ∧ Aside0 (impl_areWithin.all lo hi (l0.take x.toNat) = true) ∧ Aside0 (x.toNat + kq = l0.length) ∧ Drawn0 w w')
  case atStart => exact ⟨0, (by first | rfl | (simp; done)), ⟨by omega⟩, ⟨by simp [impl_areWithin.all]⟩, ⟨by simp⟩, Drawn0.refl _⟩
  case round =>
    obtain ⟨x, rfl, HX, HA, HK, ⟨m1, rfl⟩⟩ := hrel
    by_cases c1 : x < (l0.length : Int)
    · have c1b0 : decide (x < (l0.length : Int)) = true := decide_eq_true c1
      have p1 : 0 ≤ x := HX.out.1
      have hlt : x.toNat < l0.length := by have := HX.out; omega
      obtain ⟨ad, e, hx⟩ := Kd.at_int HR0.out x p1 c1
      cases e
      have p2 : decide (0 ≤ x) = true := decide_eq_true p1
      have hq1 : (w.drewN m1).cell? ⟨b1, 0, none⟩ = some (.int .i64 lo) := h1
      have hq2 : (w.drewN m1).cell? ⟨b2, 0, none⟩ = some (.int .i64 hi) := h2
      obtain ⟨t, ht⟩ : ∃ t, (!decide (lo ≤ rd l0 x ∧ rd l0 x ≤ hi)) = t := ⟨_, rfl⟩
      have HT := Aside0.mk ht
      have HC := Aside0.mk (ht ▸ impl_areWithin.clo b1 b2 (rd l0 x) lo hi (w.drewN m1) hq1 hq2)
      have hget : l0[x.toNat]'hlt = rd l0 x := by unfold rd; rw [List.getD_eq_getElem?_getD, List.getElem?_eq_getElem hlt]; rfl
      have HG := Aside0.mk hget
      clear ht hq1 hq2 hget
      cases t with
      | true =>
        go_wp2_with (first | (go_at_call 129; (with_reducible refine HC.out.mono ?_); rintro e w' ⟨rfl, ⟨nd, rfl⟩⟩))
        go_ret
        refine ⟨x, rfl, ⟨?_⟩, by repeat (first | exact Drawn0.refl _ | apply Drawn0.step)⟩
        have hn : impl_areWithin.all lo hi l0 = false := by
          unfold impl_areWithin.all
          rw [List.all_eq_false]
          refine ⟨rd l0 x, ?_, ?_⟩
          · rw [← HG.out]
            exact List.getElem_mem hlt
          · have := HT.out
            intro h
            rw [h] at this
            exact absurd this (by decide)
        rw [hn]
        exact decide_eq_true p1
      | false =>
        have hx1 : x + 1 ≤ l0.length := by omega
        go_wp2_with (first | (go_at_call 129; (with_reducible refine HC.out.mono ?_); rintro e w' ⟨rfl, ⟨nd, rfl⟩⟩))
        cases gk with
        | zero => exact absurd HK.out (by have := HX.out; omega)
        | succ k1 =>
        go_roundg k1
        case measure => omega
        case rel =>
          refine ⟨x + 1, by first | rfl | (simp; done), ⟨by omega⟩, ⟨?_⟩, ⟨by have := HK.out; omega⟩, by repeat (first | exact Drawn0.refl _ | apply Drawn0.step)⟩
          have e1 : (x + 1).toNat = x.toNat + 1 := by omega
          rw [e1, List.take_succ_eq_append_getElem hlt, HG.out]
          have h3 := HA.out
          have h4 := HT.out
          unfold impl_areWithin.all at h3 ⊢
          rw [List.all_append, h3]
          simpa using h4
    · have hx2 : x.toNat = l0.length := by have := HX.out; omega
      have HX2 := Aside0.mk hx2
      clear hx2
      have c1b0 : decide (x < (l0.length : Int)) = false := decide_eq_false c1
      go_wp2
      go_ret
      refine ⟨-1, rfl, ⟨?_⟩, by repeat (first | exact Drawn0.refl _ | apply Drawn0.step)⟩
      have := HA.out
      rw [HX2.out, List.take_length] at this
      rw [this]
      rfl
theorem impl_areWithin.cf (A0 : Option Addr) (c0 : Nat) (l0 : List Int) (b1 b2 : Nat) (lo hi : Int) (w : World) (hr0 : Kd.C (Kd.int .i64) w A0 l0.length l0) (hc0 : l0.length ≤ c0)
    (h1 : w.cell? ⟨b1, 0, none⟩ = some (.int .i64 lo)) (h2 : w.cell? ⟨b2, 0, none⟩ = some (.int .i64 hi)) :
    Calls Try.prog 118 #[.slice A0 l0.length c0, .func (.func 129) #[] #[.pointer (some ⟨b1, 0, none⟩), .pointer (some ⟨b2, 0, none⟩)]] w fun e w' => e = .returned (.bool (!impl_areWithin.all lo hi l0)) ∧ Drawn0 w w' := by
  obtain ⟨t, ht⟩ : ∃ t, (!impl_areWithin.all lo hi l0) = t := ⟨_, rfl⟩
  have HIX := Aside0.mk (ht ▸ impl_areWithin.ix A0 c0 l0 b1 b2 lo hi w hr0 hc0 h1 h2)
  rw [ht]
  clear hr0 hc0 h1 h2 ht
  go_enter Try.func118, Try.ntmps118
  go_wp2_with (first | (go_at_call 143; (with_reducible refine HIX.out.mono ?_); rintro e w' ⟨v, rfl, HV, ⟨nd, rfl⟩⟩; have hv := HV.out))
  go_ret
  exact ⟨by first | rfl | (simp [*]; done), by repeat (first | exact Drawn0.refl _ | apply Drawn0.step)⟩
theorem impl_areWithin.calls (A0 : Option Addr) (c0 : Nat) (l0 : List Int) (a1 : Int) (a2 : Int) (r : Bool) (w : World) (hr0 : Kd.C (Kd.int .i64) w A0 l0.length l0) (hc0 : l0.length ≤ c0) (h : impl_areWithin.f l0 a1 a2 = some r) :
    Calls Try.prog 76 #[.slice A0 l0.length c0, .int .i64 a1, .int .i64 a2] w fun e w' => e = .returned (.bool r) ∧ Below w.heap.size w w' := by
  have e : impl_areWithin.all a1 a2 l0 = r := Option.some.inj h
  have hmf : ∀ (fn : Fn) (first cap : Array Value) (w : World), (Instr.makeFunc fn first cap).run Try.prog w = .ok (.func fn first cap) w := fun _ _ _ _ => rfl
  have hM : ((w.alloc (.cells #[.int .i64 a1] 2)).alloc (.cells #[.int .i64 a2] 2)).cell? ⟨w.heap.size, 0, none⟩ = some (.int .i64 a1) := by
    rw [World.cell?_alloc_past _ _ _ (by simp), World.cell?_alloc_at _ _ _ _ rfl]; rfl
  have hD : ((w.alloc (.cells #[.int .i64 a1] 2)).alloc (.cells #[.int .i64 a2] 2)).cell? ⟨w.heap.size + 1, 0, none⟩ = some (.int .i64 a2) := by
    rw [World.cell?_alloc_at _ _ _ _ (by simp)]; rfl
  have hb : Below w.heap.size w ((w.alloc (.cells #[.int .i64 a1] 2)).alloc (.cells #[.int .i64 a2] 2)) := ((Below.refl _ _).alloc (Nat.le_refl _) _).alloc (by simp) _
  have HC := Aside0.mk (e ▸ impl_areWithin.cf A0 c0 l0 w.heap.size (w.heap.size + 1) a1 a2 _ (Kd.C_below hr0 hb) hc0 hM hD)
  clear hr0 hc0 h e hM hD hb
  go_enter Try.func76, Try.ntmps76
  go_wp2_with (first | (go_at_call 118; (with_reducible refine HC.out.mono ?_); rintro e w' ⟨rfl, ⟨nd, rfl⟩⟩))
  go_ret
  exact ⟨by first | rfl | (simp [*]; done), by repeat (first | exact Below.refl _ _ | apply below_alloc | apply pw_below_drewN | apply below_drew1)⟩

end Go.Proofs.Ytajndapolblhmab.P
