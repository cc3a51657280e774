/- What the claim of FnNeeds bears, part 2: functions of the program as plain Lean functions, with proofs that the code comes to their answers, and lemmas on them. -/
import Derived.Test.YtfcadpkhmkjibaaCFnNeeds0
import Derived.Test.YtfcadpkhmkjibaaCFnNeeds1
set_option linter.unusedVariables false
set_option linter.unusedSimpArgs false
namespace Go.Proofs.Ytfcadpkhmkjibaa.P
open Go.RowKit Go.Proofs.YtfcadpkhmkjibaaW.PrintWords Go.Proofs.YtfcadpkhmkjibaaW.PrintLast Go.Proofs.YtfcadpkhmkjibaaW.PrintMore
attribute [local go_sem] max2_int min2_int max_two min_two max_three min_three max_four min_four   -- for this text's walks alone

def laws_r8At.f (l0 : List Int) (a1 : Int) (a2 : Int) : Option (Int) := if a2 ≤ 1 then (some 0) else (if a1 ≥ (l0.length : Int) then (some 0) else (if 0 ≤ a1 then (if a1 < (l0.length : Int) then (if a2 = 0 then (none) else (some (Int.tmod (wrap64 (rd l0 a1)) a2))) else (none)) else (none)))
set_option maxHeartbeats 8000000 in
set_option maxRecDepth 100000 in
theorem laws_r8At.calls (A0 : Option Addr) (c0 : Nat) (l0 : List Int) (a1 : Int) (a2 : Int) (r : Int) (w : World) (hr0 : Kd.C (Kd.int .u8) w A0 l0.length l0) (hc0 : l0.length ≤ c0) (h : laws_r8At.f l0 a1 a2 = some r) :
  Calls Try.prog 11 #[.slice A0 l0.length c0, .int .i64 a1, .int .i64 a2] w fun e w' => e = .returned (.int .i64 r) ∧ Drawn0 w w' := by
 have HR0 := Aside0.mk hr0; have HC0 := Aside0.mk hc0; clear hr0 hc0; have H : (if a2 ≤ 1 then (some 0) else (if a1 ≥ (l0.length : Int) then (some 0) else (if 0 ≤ a1 then (if a1 < (l0.length : Int) then (if a2 = 0 then (none) else (some (Int.tmod (wrap64 (rd l0 a1)) a2))) else (none)) else (none)))) = some r := h; clear h
 by_cases c4 : a2 ≤ 1
 ·rw [if_pos c4] at H; have c4b0 : decide (a2 ≤ 1) = true := decide_eq_true c4; clear c4; obtain rfl := Option.some.inj H
  go_enter Try.func11, Try.ntmps11
  go_wp2
  go_ret
  exact ⟨by first | rfl | (simp; done) | (simp [*]; done) | (simp [tz_, *]; done), by repeat (first | exact Drawn0.refl _ | apply Drawn0.step)⟩
 ·rw [if_neg c4] at H; have c4b0 : decide (a2 ≤ 1) = false := decide_eq_false c4; clear c4
  by_cases c5 : a1 ≥ (l0.length : Int)
  ·rw [if_pos c5] at H; have c5b0 : decide ((l0.length : Int) ≤ a1) = true := decide_eq_true c5; clear c5; obtain rfl := Option.some.inj H
   go_enter Try.func11, Try.ntmps11
   go_wp2
   go_ret
   exact ⟨by first | rfl | (simp; done) | (simp [*]; done) | (simp [tz_, *]; done), by repeat (first | exact Drawn0.refl _ | apply Drawn0.step)⟩
  ·rw [if_neg c5] at H; have c5b0 : decide ((l0.length : Int) ≤ a1) = false := decide_eq_false c5; clear c5
   by_cases c6 : 0 ≤ a1
   ·rw [if_pos c6] at H; have c6b0 : decide (0 ≤ a1) = true := decide_eq_true c6; clear c6
    by_cases c7 : a1 < (l0.length : Int)
    ·rw [if_pos c7] at H; have c7b0 : decide (a1 < (l0.length : Int)) = true := decide_eq_true c7; clear c7
     by_cases c8 : a2 = 0
     ·rw [if_pos c8] at H; exact absurd H (by simp)
     ·rw [if_neg c8] at H; have c8b0 : (a2 == 0) = false := beq_eq_false_iff_ne.mpr c8; have c8b1 : (a2 != 0) = true := bne_iff_ne.mpr c8; obtain rfl := Option.some.inj H; have p185 : 0 ≤ (a1 : Int) := of_decide_eq_true (by assumption); have q185 : a1 < (l0.length : Int) := of_decide_eq_true (by assumption); obtain ⟨ad185, e185, hx185_0⟩ := Kd.at_int HR0.out a1 p185 q185
      cases e185
      replace p185 := eq_true p185; replace q185 := eq_true q185
      go_enter Try.func11, Try.ntmps11
      go_wp2
      go_ret
      exact ⟨by first | rfl | (simp; done) | (simp [*]; done) | (simp [tz_, *]; done), by repeat (first | exact Drawn0.refl _ | apply Drawn0.step)⟩
    ·rw [if_neg c7] at H; exact absurd H (by simp)
   ·rw [if_neg c6] at H; exact absurd H (by simp)

def impl_NeedsOf.f (k : Nat) (l0_0 : List (S34)) (l0_1 : List Int) (l0_2 : List Int) (a0_3 : Int) (a0_4 : Int) (a1 : Int) : Option ((List (List Int)) × Bool) := (impl_ValidHead.f k l0_0 l0_1 l0_2 a0_3 a0_4).bind fun t218 => (if t218 = true then ((impl_within.f a1 0 (wrap64 ((l0_0.length : Int) - 1))).bind fun t219 => (if t219 = true then ((impl_Head_needs.f k l0_0 l0_1 l0_2 a0_3 a0_4 a1).bind fun bt220 => (some (bt220.1, bt220.2))) else (some (([] : List (List Int)), false)))) else (some (([] : List (List Int)), false)))
set_option maxHeartbeats 8000000 in
set_option maxRecDepth 100000 in
theorem impl_NeedsOf.calls (k : Nat) (A0_0 : Option Addr) (c0_0 : Nat) (l0_0 : List (S34)) (A0_1 : Option Addr) (c0_1 : Nat) (l0_1 : List Int) (A0_2 : Option Addr) (c0_2 : Nat) (l0_2 : List Int) (a0_3 : Int) (a0_4 : Int) (a1 : Int) (r1 : List (List Int)) (r2 : Bool) (w : World) (hr0_0 : Kd.C k34 w A0_0 l0_0.length l0_0) (hc0_0 : l0_0.length ≤ c0_0) (hr0_1 : Kd.C (Kd.int .i64) w A0_1 l0_1.length l0_1) (hc0_1 : l0_1.length ≤ c0_1) (hr0_2 : Kd.C (Kd.int .i64) w A0_2 l0_2.length l0_2) (hc0_2 : l0_2.length ≤ c0_2) (h : impl_NeedsOf.f k l0_0 l0_1 l0_2 a0_3 a0_4 a1 = some (r1, r2)) :
  Calls Try.prog 12 #[.agg #[.slice A0_0 l0_0.length c0_0, .slice A0_1 l0_1.length c0_1, .slice A0_2 l0_2.length c0_2, .int .i64 a0_3, .int .i64 a0_4], .int .i64 a1] w fun e w' => ∃ v0_ : Value, e = .returned (.tuple #[v0_, .bool r2]) ∧ Kd.S (Kd.slice 2 (Kd.int .i64)) 25 w' w.heap.size (fun _ => True) v0_ r1 ∧ Below w.heap.size w w' := by
 have hu27 := Try.underlying27; have HR0_0 := Aside0.mk hr0_0; have HC0_0 := Aside0.mk hc0_0; clear hr0_0 hc0_0; have HR0_1 := Aside0.mk hr0_1; have HC0_1 := Aside0.mk hc0_1; clear hr0_1 hc0_1; have HR0_2 := Aside0.mk hr0_2; have HC0_2 := Aside0.mk hc0_2; clear hr0_2 hc0_2; have HB := Aside0.mk (Below.refl w.heap.size w); have H : ((impl_ValidHead.f k l0_0 l0_1 l0_2 a0_3 a0_4).bind fun t218 => (if t218 = true then ((impl_within.f a1 0 (wrap64 ((l0_0.length : Int) - 1))).bind fun t219 => (if t219 = true then ((impl_Head_needs.f k l0_0 l0_1 l0_2 a0_3 a0_4 a1).bind fun bt220 => (some (bt220.1, bt220.2))) else (some (([] : List (List Int)), false)))) else (some (([] : List (List Int)), false)))) = some (r1, r2) := h; clear h; replace H := Option.bind_eq_some_iff.mp H; obtain ⟨t218, A30, H⟩ := H; replace H : (if t218 = true then ((impl_within.f a1 0 (wrap64 ((l0_0.length : Int) - 1))).bind fun t219 => (if t219 = true then ((impl_Head_needs.f k l0_0 l0_1 l0_2 a0_3 a0_4 a1).bind fun bt220 => (some (bt220.1, bt220.2))) else (some (([] : List (List Int)), false)))) else (some (([] : List (List Int)), false))) = some (r1, r2) := H; have A3 := Aside0.mk A30; clear A30
 by_cases c4 : t218 = true
 ·subst c4; (have H1 : ((impl_within.f a1 0 (wrap64 ((l0_0.length : Int) - 1))).bind fun t219 => (if t219 = true then ((impl_Head_needs.f k l0_0 l0_1 l0_2 a0_3 a0_4 a1).bind fun bt220 => (some (bt220.1, bt220.2))) else (some (([] : List (List Int)), false)))) = some (r1, r2) := by rw [if_pos rfl] at H; exact H); clear H; have H := H1; clear H1; replace H := Option.bind_eq_some_iff.mp H; obtain ⟨t219, A50, H⟩ := H; replace H : (if t219 = true then ((impl_Head_needs.f k l0_0 l0_1 l0_2 a0_3 a0_4 a1).bind fun bt220 => (some (bt220.1, bt220.2))) else (some (([] : List (List Int)), false))) = some (r1, r2) := H; have A5 := Aside0.mk A50; clear A50
  by_cases c6 : t219 = true
  ·subst c6; (have H1 : ((impl_Head_needs.f k l0_0 l0_1 l0_2 a0_3 a0_4 a1).bind fun bt220 => (some (bt220.1, bt220.2))) = some (r1, r2) := by rw [if_pos rfl] at H; exact H); clear H; have H := H1; clear H1; replace H := Option.bind_eq_some_iff.mp H; obtain ⟨⟨t220, t223⟩, A70, H⟩ := H; replace H : (some (t220, t223)) = some (r1, r2) := H; have A7 := Aside0.mk A70; clear A70; simp only [Option.some.injEq, Prod.mk.injEq] at H; obtain ⟨rfl, rfl⟩ := H
   go_enter Try.func12, Try.ntmps12
   go_wp2_with (first | ((with_reducible refine gate_dst (N := 2) rfl ?_); (try (refine gate_guard (by rfl) ?_; dsimp only)); refine box_event (by rfl) (N := 2) (by rfl) (cs := #[.slice A0_0 l0_0.length c0_0, .slice A0_1 l0_1.length c0_1, .slice A0_2 l0_2.length c0_2, .int .i64 a0_3, .int .i64 a0_4]) (t := 27) kg_ ?_; intro gb217 hg w8 hbox hb; have n0_ := Aside0.mk (below_step (kh0_ HB.out) hb); have n1_ := Aside0.mk (hbox); have n2_ := kw_ (w := w) hg (kh0_ HB.out); have n3_ := kw_ (w := w) hg (kh0_ HB.out); clear HB; have HB := n0_; have BK217 := n1_; have GW217 := n2_; have GE217 := n3_; clear n0_ n1_ n2_ n3_; clear hb hbox hg; obtain ⟨hcz9_0, hcz9_1, hcz9_2, hcz9_3, hcz9_4, hfz9_0, hfz9_1, hfz9_2, hfz9_3, hfz9_4⟩ := cl5_ BK217.out) | ((with_reducible refine gate_callee (f := 14) rfl ?_); refine goesL_ (some 7) rfl rfl Try.func14 kr_ rfl #[.agg #[.slice A0_0 l0_0.length c0_0, .slice A0_1 l0_1.length c0_1, .slice A0_2 l0_2.length c0_2, .int .i64 a0_3, .int .i64 a0_4]] rfl km_ ?_; (with_reducible refine (impl_ValidHead.calls k _ _ l0_0 _ _ l0_1 _ _ l0_2 a0_3 a0_4 true _ ?side1 ?side2 ?side3 ?side4 ?side5 ?side6 A3.out).mono ?_); (case side1 => repeat (first | exact (Kd.C_below HR0_0.out HB.out) | (with_reducible first | refine Kd.C_alloc ?_ _ | refine Kd.C_drewN ?_ _ | refine Kd.C_drew ?_))); (case side2 => exact HC0_0.out); (case side3 => repeat (first | exact (Kd.C_below HR0_1.out HB.out) | (with_reducible first | refine Kd.C_alloc ?_ _ | refine Kd.C_drewN ?_ _ | refine Kd.C_drew ?_))); (case side4 => exact HC0_1.out); (case side5 => repeat (first | exact (Kd.C_below HR0_2.out HB.out) | (with_reducible first | refine Kd.C_alloc ?_ _ | refine Kd.C_drewN ?_ _ | refine Kd.C_drew ?_))); (case side6 => exact HC0_2.out); rintro e w10 ⟨rfl, hb⟩; refine ⟨_, rfl, ?_⟩; have n0_ := Aside0.mk (blk_below (kb0_ BK217.out) hb); have n1_ := Aside0.mk (below_step (ke_ HB.out) hb); clear BK217; clear HB; have BK217 := n0_; have HB := n1_; clear n0_ n1_; (try clear hb hb2 hk hi); obtain ⟨hcz11_0, hcz11_1, hcz11_2, hcz11_3, hcz11_4, hfz11_0, hfz11_1, hfz11_2, hfz11_3, hfz11_4⟩ := cl5_ BK217.out) | (go_at_call 42; (with_reducible refine (impl_within.calls a1 0 (wrap64 ((l0_0.length : Int) - 1)) true _ A5.out).mono ?_); rintro e w' ⟨rfl, ⟨nd, rfl⟩⟩) | ((with_reducible refine gate_callee (f := 43) rfl ?_); refine goesL_ (some 20) rfl rfl Try.func43 kr_ rfl #[.agg #[.slice A0_0 l0_0.length c0_0, .slice A0_1 l0_1.length c0_1, .slice A0_2 l0_2.length c0_2, .int .i64 a0_3, .int .i64 a0_4], .int .i64 a1] rfl km_ ?_; (with_reducible refine (impl_Head_needs.calls k _ _ l0_0 _ _ l0_1 _ _ l0_2 a0_3 a0_4 a1 t220 t223 _ ?side1 ?side2 ?side3 ?side4 ?side5 ?side6 A7.out).mono ?_); (case side1 => repeat (first | exact (Kd.C_below HR0_0.out (ke_ HB.out)) | (with_reducible first | refine Kd.C_alloc ?_ _ | refine Kd.C_drewN ?_ _ | refine Kd.C_drew ?_))); (case side2 => exact HC0_0.out); (case side3 => repeat (first | exact (Kd.C_below HR0_1.out (ke_ HB.out)) | (with_reducible first | refine Kd.C_alloc ?_ _ | refine Kd.C_drewN ?_ _ | refine Kd.C_drew ?_))); (case side4 => exact HC0_1.out); (case side5 => repeat (first | exact (Kd.C_below HR0_2.out (ke_ HB.out)) | (with_reducible first | refine Kd.C_alloc ?_ _ | refine Kd.C_drewN ?_ _ | refine Kd.C_drew ?_))); (case side6 => exact HC0_2.out); rintro e w12 ⟨v221, rfl, ho0, hb⟩; refine ⟨_, rfl, ?_⟩; have n0_ := Aside0.mk (Kd.S_lower ho0 (below_size (ke_ HB.out))); have n1_ := Aside0.mk (blk_below (kb0_ BK217.out) hb); have n2_ := Aside0.mk (below_step (ke_ HB.out) hb); clear BK217; clear HB; have HO222 := n0_; have BK217 := n1_; have HB := n2_; clear n0_ n1_ n2_; (try clear hb hb2 hk hi ho0)))
   go_ret2
   exact ⟨_, by first | rfl | (simp [errW_none, errW_some] <;> rfl) | (simp [*, errW_none, errW_some] <;> rfl) | (simp [tz_, *]; done), by (with_reducible repeat (first | apply Kd.S_alloc | apply Kd.S_drewN | apply Kd.S_drew)); exact HO222.out, ke_ HB.out⟩
  ·replace c6 := Bool.eq_false_iff.mpr c6; subst c6; (have H1 : (some (([] : List (List Int)), false)) = some (r1, r2) := by rw [if_neg (show ¬ (false = true) by decide)] at H; exact H); clear H; have H := H1; clear H1; simp only [Option.some.injEq, Prod.mk.injEq] at H; obtain ⟨rfl, rfl⟩ := H
   go_enter Try.func12, Try.ntmps12
   go_wp2_with (first | ((with_reducible refine gate_dst (N := 2) rfl ?_); (try (refine gate_guard (by rfl) ?_; dsimp only)); refine box_event (by rfl) (N := 2) (by rfl) (cs := #[.slice A0_0 l0_0.length c0_0, .slice A0_1 l0_1.length c0_1, .slice A0_2 l0_2.length c0_2, .int .i64 a0_3, .int .i64 a0_4]) (t := 27) kg_ ?_; intro gb217 hg w13 hbox hb; have n0_ := Aside0.mk (below_step (kh0_ HB.out) hb); have n1_ := Aside0.mk (hbox); have n2_ := kw_ (w := w) hg (kh0_ HB.out); have n3_ := kw_ (w := w) hg (kh0_ HB.out); clear HB; have HB := n0_; have BK217 := n1_; have GW217 := n2_; have GE217 := n3_; clear n0_ n1_ n2_ n3_; clear hb hbox hg; obtain ⟨hcz14_0, hcz14_1, hcz14_2, hcz14_3, hcz14_4, hfz14_0, hfz14_1, hfz14_2, hfz14_3, hfz14_4⟩ := cl5_ BK217.out) | ((with_reducible refine gate_callee (f := 14) rfl ?_); refine goesL_ (some 7) rfl rfl Try.func14 kr_ rfl #[.agg #[.slice A0_0 l0_0.length c0_0, .slice A0_1 l0_1.length c0_1, .slice A0_2 l0_2.length c0_2, .int .i64 a0_3, .int .i64 a0_4]] rfl km_ ?_; (with_reducible refine (impl_ValidHead.calls k _ _ l0_0 _ _ l0_1 _ _ l0_2 a0_3 a0_4 true _ ?side1 ?side2 ?side3 ?side4 ?side5 ?side6 A3.out).mono ?_); (case side1 => repeat (first | exact (Kd.C_below HR0_0.out HB.out) | (with_reducible first | refine Kd.C_alloc ?_ _ | refine Kd.C_drewN ?_ _ | refine Kd.C_drew ?_))); (case side2 => exact HC0_0.out); (case side3 => repeat (first | exact (Kd.C_below HR0_1.out HB.out) | (with_reducible first | refine Kd.C_alloc ?_ _ | refine Kd.C_drewN ?_ _ | refine Kd.C_drew ?_))); (case side4 => exact HC0_1.out); (case side5 => repeat (first | exact (Kd.C_below HR0_2.out HB.out) | (with_reducible first | refine Kd.C_alloc ?_ _ | refine Kd.C_drewN ?_ _ | refine Kd.C_drew ?_))); (case side6 => exact HC0_2.out); rintro e w15 ⟨rfl, hb⟩; refine ⟨_, rfl, ?_⟩; have n0_ := Aside0.mk (blk_below (kb0_ BK217.out) hb); have n1_ := Aside0.mk (below_step (ke_ HB.out) hb); clear BK217; clear HB; have BK217 := n0_; have HB := n1_; clear n0_ n1_; (try clear hb hb2 hk hi); obtain ⟨hcz16_0, hcz16_1, hcz16_2, hcz16_3, hcz16_4, hfz16_0, hfz16_1, hfz16_2, hfz16_3, hfz16_4⟩ := cl5_ BK217.out) | (go_at_call 42; (with_reducible refine (impl_within.calls a1 0 (wrap64 ((l0_0.length : Int) - 1)) false _ A5.out).mono ?_); rintro e w' ⟨rfl, ⟨nd, rfl⟩⟩))
   go_ret2
   exact ⟨_, by first | rfl | (simp [errW_none, errW_some] <;> rfl) | (simp [*, errW_none, errW_some] <;> rfl) | (simp [tz_, *]; done), by first | exact Kd.S_nil _ _ _ _ _ | exact Kd.N_nil _ _ _ _ _ | exact Kd.V_nil _ _ _ _ _ | exact Kd.Q_nil _ _ _ _ _ | exact Kd.R_nil _ _ _ _ _, ke_ HB.out⟩
 ·replace c4 := Bool.eq_false_iff.mpr c4; subst c4; (have H1 : (some (([] : List (List Int)), false)) = some (r1, r2) := by rw [if_neg (show ¬ (false = true) by decide)] at H; exact H); clear H; have H := H1; clear H1; simp only [Option.some.injEq, Prod.mk.injEq] at H; obtain ⟨rfl, rfl⟩ := H
  go_enter Try.func12, Try.ntmps12
  go_wp2_with (first | ((with_reducible refine gate_dst (N := 2) rfl ?_); (try (refine gate_guard (by rfl) ?_; dsimp only)); refine box_event (by rfl) (N := 2) (by rfl) (cs := #[.slice A0_0 l0_0.length c0_0, .slice A0_1 l0_1.length c0_1, .slice A0_2 l0_2.length c0_2, .int .i64 a0_3, .int .i64 a0_4]) (t := 27) kg_ ?_; intro gb217 hg w17 hbox hb; have n0_ := Aside0.mk (below_step (kh0_ HB.out) hb); have n1_ := Aside0.mk (hbox); have n2_ := kw_ (w := w) hg (kh0_ HB.out); have n3_ := kw_ (w := w) hg (kh0_ HB.out); clear HB; have HB := n0_; have BK217 := n1_; have GW217 := n2_; have GE217 := n3_; clear n0_ n1_ n2_ n3_; clear hb hbox hg; obtain ⟨hcz18_0, hcz18_1, hcz18_2, hcz18_3, hcz18_4, hfz18_0, hfz18_1, hfz18_2, hfz18_3, hfz18_4⟩ := cl5_ BK217.out) | ((with_reducible refine gate_callee (f := 14) rfl ?_); refine goesL_ (some 7) rfl rfl Try.func14 kr_ rfl #[.agg #[.slice A0_0 l0_0.length c0_0, .slice A0_1 l0_1.length c0_1, .slice A0_2 l0_2.length c0_2, .int .i64 a0_3, .int .i64 a0_4]] rfl km_ ?_; (with_reducible refine (impl_ValidHead.calls k _ _ l0_0 _ _ l0_1 _ _ l0_2 a0_3 a0_4 false _ ?side1 ?side2 ?side3 ?side4 ?side5 ?side6 A3.out).mono ?_); (case side1 => repeat (first | exact (Kd.C_below HR0_0.out HB.out) | (with_reducible first | refine Kd.C_alloc ?_ _ | refine Kd.C_drewN ?_ _ | refine Kd.C_drew ?_))); (case side2 => exact HC0_0.out); (case side3 => repeat (first | exact (Kd.C_below HR0_1.out HB.out) | (with_reducible first | refine Kd.C_alloc ?_ _ | refine Kd.C_drewN ?_ _ | refine Kd.C_drew ?_))); (case side4 => exact HC0_1.out); (case side5 => repeat (first | exact (Kd.C_below HR0_2.out HB.out) | (with_reducible first | refine Kd.C_alloc ?_ _ | refine Kd.C_drewN ?_ _ | refine Kd.C_drew ?_))); (case side6 => exact HC0_2.out); rintro e w19 ⟨rfl, hb⟩; refine ⟨_, rfl, ?_⟩; have n0_ := Aside0.mk (blk_below (kb0_ BK217.out) hb); have n1_ := Aside0.mk (below_step (ke_ HB.out) hb); clear BK217; clear HB; have BK217 := n0_; have HB := n1_; clear n0_ n1_; (try clear hb hb2 hk hi)))
  go_ret2
  exact ⟨_, by first | rfl | (simp [errW_none, errW_some] <;> rfl) | (simp [*, errW_none, errW_some] <;> rfl) | (simp [tz_, *]; done), by first | exact Kd.S_nil _ _ _ _ _ | exact Kd.N_nil _ _ _ _ _ | exact Kd.V_nil _ _ _ _ _ | exact Kd.Q_nil _ _ _ _ _ | exact Kd.R_nil _ _ _ _ _, ke_ HB.out⟩

def impl_RangeOf.f (k : Nat) (l0_0 : List (S34)) (l0_1 : List Int) (l0_2 : List Int) (a0_3 : Int) (a0_4 : Int) (a1 : Int) (a2 : Int) : Option (Int × Bool) := (impl_ValidHead.f k l0_0 l0_1 l0_2 a0_3 a0_4).bind fun t304 => (if t304 = true then ((impl_within.f a1 0 (wrap64 ((l0_0.length : Int) - 1))).bind fun t305 => (if t305 = true then ((impl_within.f a2 0 (wrap64 ((l0_1.length : Int) - 1))).bind fun t306 => (if t306 = true then ((impl_Head_reach.f k l0_0 l0_1 l0_2 a0_3 a0_4 a1 a2 0).bind fun t307 => (some (wrap64 (t307 - a2), true))) else (some (0, false)))) else (some (0, false)))) else (some (0, false)))
set_option maxHeartbeats 8000000 in
set_option maxRecDepth 100000 in
theorem impl_RangeOf.calls (k : Nat) (A0_0 : Option Addr) (c0_0 : Nat) (l0_0 : List (S34)) (A0_1 : Option Addr) (c0_1 : Nat) (l0_1 : List Int) (A0_2 : Option Addr) (c0_2 : Nat) (l0_2 : List Int) (a0_3 : Int) (a0_4 : Int) (a1 : Int) (a2 : Int) (r1 : Int) (r2 : Bool) (w : World) (hr0_0 : Kd.C k34 w A0_0 l0_0.length l0_0) (hc0_0 : l0_0.length ≤ c0_0) (hr0_1 : Kd.C (Kd.int .i64) w A0_1 l0_1.length l0_1) (hc0_1 : l0_1.length ≤ c0_1) (hr0_2 : Kd.C (Kd.int .i64) w A0_2 l0_2.length l0_2) (hc0_2 : l0_2.length ≤ c0_2) (h : impl_RangeOf.f k l0_0 l0_1 l0_2 a0_3 a0_4 a1 a2 = some (r1, r2)) :
  Calls Try.prog 16 #[.agg #[.slice A0_0 l0_0.length c0_0, .slice A0_1 l0_1.length c0_1, .slice A0_2 l0_2.length c0_2, .int .i64 a0_3, .int .i64 a0_4], .int .i64 a1, .int .i64 a2] w fun e w' => e = .returned (.tuple #[.int .i64 r1, .bool r2]) ∧ Below w.heap.size w w' := by
 have hu27 := Try.underlying27; have HR0_0 := Aside0.mk hr0_0; have HC0_0 := Aside0.mk hc0_0; clear hr0_0 hc0_0; have HR0_1 := Aside0.mk hr0_1; have HC0_1 := Aside0.mk hc0_1; clear hr0_1 hc0_1; have HR0_2 := Aside0.mk hr0_2; have HC0_2 := Aside0.mk hc0_2; clear hr0_2 hc0_2; have HB := Aside0.mk (Below.refl w.heap.size w); have H : ((impl_ValidHead.f k l0_0 l0_1 l0_2 a0_3 a0_4).bind fun t304 => (if t304 = true then ((impl_within.f a1 0 (wrap64 ((l0_0.length : Int) - 1))).bind fun t305 => (if t305 = true then ((impl_within.f a2 0 (wrap64 ((l0_1.length : Int) - 1))).bind fun t306 => (if t306 = true then ((impl_Head_reach.f k l0_0 l0_1 l0_2 a0_3 a0_4 a1 a2 0).bind fun t307 => (some (wrap64 (t307 - a2), true))) else (some (0, false)))) else (some (0, false)))) else (some (0, false)))) = some (r1, r2) := h; clear h; replace H := Option.bind_eq_some_iff.mp H; obtain ⟨t304, A40, H⟩ := H; replace H : (if t304 = true then ((impl_within.f a1 0 (wrap64 ((l0_0.length : Int) - 1))).bind fun t305 => (if t305 = true then ((impl_within.f a2 0 (wrap64 ((l0_1.length : Int) - 1))).bind fun t306 => (if t306 = true then ((impl_Head_reach.f k l0_0 l0_1 l0_2 a0_3 a0_4 a1 a2 0).bind fun t307 => (some (wrap64 (t307 - a2), true))) else (some (0, false)))) else (some (0, false)))) else (some (0, false))) = some (r1, r2) := H; have A4 := Aside0.mk A40; clear A40
 by_cases c5 : t304 = true
 ·subst c5; (have H1 : ((impl_within.f a1 0 (wrap64 ((l0_0.length : Int) - 1))).bind fun t305 => (if t305 = true then ((impl_within.f a2 0 (wrap64 ((l0_1.length : Int) - 1))).bind fun t306 => (if t306 = true then ((impl_Head_reach.f k l0_0 l0_1 l0_2 a0_3 a0_4 a1 a2 0).bind fun t307 => (some (wrap64 (t307 - a2), true))) else (some (0, false)))) else (some (0, false)))) = some (r1, r2) := by rw [if_pos rfl] at H; exact H); clear H; have H := H1; clear H1; replace H := Option.bind_eq_some_iff.mp H; obtain ⟨t305, A60, H⟩ := H; replace H : (if t305 = true then ((impl_within.f a2 0 (wrap64 ((l0_1.length : Int) - 1))).bind fun t306 => (if t306 = true then ((impl_Head_reach.f k l0_0 l0_1 l0_2 a0_3 a0_4 a1 a2 0).bind fun t307 => (some (wrap64 (t307 - a2), true))) else (some (0, false)))) else (some (0, false))) = some (r1, r2) := H; have A6 := Aside0.mk A60; clear A60
  by_cases c7 : t305 = true
  ·subst c7; (have H1 : ((impl_within.f a2 0 (wrap64 ((l0_1.length : Int) - 1))).bind fun t306 => (if t306 = true then ((impl_Head_reach.f k l0_0 l0_1 l0_2 a0_3 a0_4 a1 a2 0).bind fun t307 => (some (wrap64 (t307 - a2), true))) else (some (0, false)))) = some (r1, r2) := by rw [if_pos rfl] at H; exact H); clear H; have H := H1; clear H1; replace H := Option.bind_eq_some_iff.mp H; obtain ⟨t306, A80, H⟩ := H; replace H : (if t306 = true then ((impl_Head_reach.f k l0_0 l0_1 l0_2 a0_3 a0_4 a1 a2 0).bind fun t307 => (some (wrap64 (t307 - a2), true))) else (some (0, false))) = some (r1, r2) := H; have A8 := Aside0.mk A80; clear A80
   by_cases c9 : t306 = true
   ·subst c9; (have H1 : ((impl_Head_reach.f k l0_0 l0_1 l0_2 a0_3 a0_4 a1 a2 0).bind fun t307 => (some (wrap64 (t307 - a2), true))) = some (r1, r2) := by rw [if_pos rfl] at H; exact H); clear H; have H := H1; clear H1; replace H := Option.bind_eq_some_iff.mp H; obtain ⟨t307, A100, H⟩ := H; replace H : (some (wrap64 (t307 - a2), true)) = some (r1, r2) := H; have A10 := Aside0.mk A100; clear A100; simp only [Option.some.injEq, Prod.mk.injEq] at H; obtain ⟨rfl, rfl⟩ := H
    go_enter Try.func16, Try.ntmps16
    go_wp2_with (first | ((with_reducible refine gate_dst (N := 3) rfl ?_); (try (refine gate_guard (by rfl) ?_; dsimp only)); refine box_event (by rfl) (N := 3) (by rfl) (cs := #[.slice A0_0 l0_0.length c0_0, .slice A0_1 l0_1.length c0_1, .slice A0_2 l0_2.length c0_2, .int .i64 a0_3, .int .i64 a0_4]) (t := 27) kg_ ?_; intro gb303 hg w11 hbox hb; have n0_ := Aside0.mk (below_step (kh0_ HB.out) hb); have n1_ := Aside0.mk (hbox); have n2_ := kw_ (w := w) hg (kh0_ HB.out); have n3_ := kw_ (w := w) hg (kh0_ HB.out); clear HB; have HB := n0_; have BK303 := n1_; have GW303 := n2_; have GE303 := n3_; clear n0_ n1_ n2_ n3_; clear hb hbox hg; obtain ⟨hcz12_0, hcz12_1, hcz12_2, hcz12_3, hcz12_4, hfz12_0, hfz12_1, hfz12_2, hfz12_3, hfz12_4⟩ := cl5_ BK303.out) | ((with_reducible refine gate_callee (f := 14) rfl ?_); refine goesL_ (some 9) rfl rfl Try.func14 kr_ rfl #[.agg #[.slice A0_0 l0_0.length c0_0, .slice A0_1 l0_1.length c0_1, .slice A0_2 l0_2.length c0_2, .int .i64 a0_3, .int .i64 a0_4]] rfl km_ ?_; (with_reducible refine (impl_ValidHead.calls k _ _ l0_0 _ _ l0_1 _ _ l0_2 a0_3 a0_4 true _ ?side1 ?side2 ?side3 ?side4 ?side5 ?side6 A4.out).mono ?_); (case side1 => repeat (first | exact (Kd.C_below HR0_0.out HB.out) | (with_reducible first | refine Kd.C_alloc ?_ _ | refine Kd.C_drewN ?_ _ | refine Kd.C_drew ?_))); (case side2 => exact HC0_0.out); (case side3 => repeat (first | exact (Kd.C_below HR0_1.out HB.out) | (with_reducible first | refine Kd.C_alloc ?_ _ | refine Kd.C_drewN ?_ _ | refine Kd.C_drew ?_))); (case side4 => exact HC0_1.out); (case side5 => repeat (first | exact (Kd.C_below HR0_2.out HB.out) | (with_reducible first | refine Kd.C_alloc ?_ _ | refine Kd.C_drewN ?_ _ | refine Kd.C_drew ?_))); (case side6 => exact HC0_2.out); rintro e w13 ⟨rfl, hb⟩; refine ⟨_, rfl, ?_⟩; have n0_ := Aside0.mk (blk_below (kb0_ BK303.out) hb); have n1_ := Aside0.mk (below_step (ke_ HB.out) hb); clear BK303; clear HB; have BK303 := n0_; have HB := n1_; clear n0_ n1_; (try clear hb hb2 hk hi); obtain ⟨hcz14_0, hcz14_1, hcz14_2, hcz14_3, hcz14_4, hfz14_0, hfz14_1, hfz14_2, hfz14_3, hfz14_4⟩ := cl5_ BK303.out) | (go_at_call 42; (with_reducible refine (impl_within.calls a1 0 (wrap64 ((l0_0.length : Int) - 1)) true _ A6.out).mono ?_); rintro e w' ⟨rfl, ⟨nd, rfl⟩⟩) | (go_at_call 42; (with_reducible refine (impl_within.calls a2 0 (wrap64 ((l0_1.length : Int) - 1)) true _ A8.out).mono ?_); rintro e w' ⟨rfl, ⟨nd, rfl⟩⟩) | ((with_reducible refine gate_callee (f := 50) rfl ?_); refine goesL_ (some 32) rfl rfl Try.func50 kr_ rfl #[.agg #[.slice A0_0 l0_0.length c0_0, .slice A0_1 l0_1.length c0_1, .slice A0_2 l0_2.length c0_2, .int .i64 a0_3, .int .i64 a0_4], .int .i64 a1, .int .i64 a2, .int .i64 0] rfl km_ ?_; (with_reducible refine (impl_Head_reach.calls k _ _ l0_0 _ _ l0_1 _ _ l0_2 a0_3 a0_4 a1 a2 0 t307 _ ?side1 ?side2 ?side3 ?side4 ?side5 ?side6 A10.out).mono ?_); (case side1 => repeat (first | exact (Kd.C_below HR0_0.out (ke_ HB.out)) | (with_reducible first | refine Kd.C_alloc ?_ _ | refine Kd.C_drewN ?_ _ | refine Kd.C_drew ?_))); (case side2 => exact HC0_0.out); (case side3 => repeat (first | exact (Kd.C_below HR0_1.out (ke_ HB.out)) | (with_reducible first | refine Kd.C_alloc ?_ _ | refine Kd.C_drewN ?_ _ | refine Kd.C_drew ?_))); (case side4 => exact HC0_1.out); (case side5 => repeat (first | exact (Kd.C_below HR0_2.out (ke_ HB.out)) | (with_reducible first | refine Kd.C_alloc ?_ _ | refine Kd.C_drewN ?_ _ | refine Kd.C_drew ?_))); (case side6 => exact HC0_2.out); rintro e w15 ⟨rfl, hb⟩; refine ⟨_, rfl, ?_⟩; have n0_ := Aside0.mk (blk_below (kb0_ BK303.out) hb); have n1_ := Aside0.mk (below_step (ke_ HB.out) hb); clear BK303; clear HB; have BK303 := n0_; have HB := n1_; clear n0_ n1_; (try clear hb hb2 hk hi)))
    go_ret2
    exact ⟨by first | rfl | (simp [errW_none, errW_some] <;> rfl) | (simp [*, errW_none, errW_some] <;> rfl) | (simp [tz_, *]; done), ke_ HB.out⟩
   ·replace c9 := Bool.eq_false_iff.mpr c9; subst c9; (have H1 : (some (0, false)) = some (r1, r2) := by rw [if_neg (show ¬ (false = true) by decide)] at H; exact H); clear H; have H := H1; clear H1; simp only [Option.some.injEq, Prod.mk.injEq] at H; obtain ⟨rfl, rfl⟩ := H
    go_enter Try.func16, Try.ntmps16
    go_wp2_with (first | ((with_reducible refine gate_dst (N := 3) rfl ?_); (try (refine gate_guard (by rfl) ?_; dsimp only)); refine box_event (by rfl) (N := 3) (by rfl) (cs := #[.slice A0_0 l0_0.length c0_0, .slice A0_1 l0_1.length c0_1, .slice A0_2 l0_2.length c0_2, .int .i64 a0_3, .int .i64 a0_4]) (t := 27) kg_ ?_; intro gb303 hg w16 hbox hb; have n0_ := Aside0.mk (below_step (kh0_ HB.out) hb); have n1_ := Aside0.mk (hbox); have n2_ := kw_ (w := w) hg (kh0_ HB.out); have n3_ := kw_ (w := w) hg (kh0_ HB.out); clear HB; have HB := n0_; have BK303 := n1_; have GW303 := n2_; have GE303 := n3_; clear n0_ n1_ n2_ n3_; clear hb hbox hg; obtain ⟨hcz17_0, hcz17_1, hcz17_2, hcz17_3, hcz17_4, hfz17_0, hfz17_1, hfz17_2, hfz17_3, hfz17_4⟩ := cl5_ BK303.out) | ((with_reducible refine gate_callee (f := 14) rfl ?_); refine goesL_ (some 9) rfl rfl Try.func14 kr_ rfl #[.agg #[.slice A0_0 l0_0.length c0_0, .slice A0_1 l0_1.length c0_1, .slice A0_2 l0_2.length c0_2, .int .i64 a0_3, .int .i64 a0_4]] rfl km_ ?_; (with_reducible refine (impl_ValidHead.calls k _ _ l0_0 _ _ l0_1 _ _ l0_2 a0_3 a0_4 true _ ?side1 ?side2 ?side3 ?side4 ?side5 ?side6 A4.out).mono ?_); (case side1 => repeat (first | exact (Kd.C_below HR0_0.out HB.out) | (with_reducible first | refine Kd.C_alloc ?_ _ | refine Kd.C_drewN ?_ _ | refine Kd.C_drew ?_))); (case side2 => exact HC0_0.out); (case side3 => repeat (first | exact (Kd.C_below HR0_1.out HB.out) | (with_reducible first | refine Kd.C_alloc ?_ _ | refine Kd.C_drewN ?_ _ | refine Kd.C_drew ?_))); (case side4 => exact HC0_1.out); (case side5 => repeat (first | exact (Kd.C_below HR0_2.out HB.out) | (with_reducible first | refine Kd.C_alloc ?_ _ | refine Kd.C_drewN ?_ _ | refine Kd.C_drew ?_))); (case side6 => exact HC0_2.out); rintro e w18 ⟨rfl, hb⟩; refine ⟨_, rfl, ?_⟩; have n0_ := Aside0.mk (blk_below (kb0_ BK303.out) hb); have n1_ := Aside0.mk (below_step (ke_ HB.out) hb); clear BK303; clear HB; have BK303 := n0_; have HB := n1_; clear n0_ n1_; (try clear hb hb2 hk hi); obtain ⟨hcz19_0, hcz19_1, hcz19_2, hcz19_3, hcz19_4, hfz19_0, hfz19_1, hfz19_2, hfz19_3, hfz19_4⟩ := cl5_ BK303.out) | (go_at_call 42; (with_reducible refine (impl_within.calls a1 0 (wrap64 ((l0_0.length : Int) - 1)) true _ A6.out).mono ?_); rintro e w' ⟨rfl, ⟨nd, rfl⟩⟩) | (go_at_call 42; (with_reducible refine (impl_within.calls a2 0 (wrap64 ((l0_1.length : Int) - 1)) false _ A8.out).mono ?_); rintro e w' ⟨rfl, ⟨nd, rfl⟩⟩))
    go_ret2
    exact ⟨by first | rfl | (simp [errW_none, errW_some] <;> rfl) | (simp [*, errW_none, errW_some] <;> rfl) | (simp [tz_, *]; done), ke_ HB.out⟩
  ·replace c7 := Bool.eq_false_iff.mpr c7; subst c7; (have H1 : (some (0, false)) = some (r1, r2) := by rw [if_neg (show ¬ (false = true) by decide)] at H; exact H); clear H; have H := H1; clear H1; simp only [Option.some.injEq, Prod.mk.injEq] at H; obtain ⟨rfl, rfl⟩ := H
   go_enter Try.func16, Try.ntmps16
   go_wp2_with (first | ((with_reducible refine gate_dst (N := 3) rfl ?_); (try (refine gate_guard (by rfl) ?_; dsimp only)); refine box_event (by rfl) (N := 3) (by rfl) (cs := #[.slice A0_0 l0_0.length c0_0, .slice A0_1 l0_1.length c0_1, .slice A0_2 l0_2.length c0_2, .int .i64 a0_3, .int .i64 a0_4]) (t := 27) kg_ ?_; intro gb303 hg w20 hbox hb; have n0_ := Aside0.mk (below_step (kh0_ HB.out) hb); have n1_ := Aside0.mk (hbox); have n2_ := kw_ (w := w) hg (kh0_ HB.out); have n3_ := kw_ (w := w) hg (kh0_ HB.out); clear HB; have HB := n0_; have BK303 := n1_; have GW303 := n2_; have GE303 := n3_; clear n0_ n1_ n2_ n3_; clear hb hbox hg; obtain ⟨hcz21_0, hcz21_1, hcz21_2, hcz21_3, hcz21_4, hfz21_0, hfz21_1, hfz21_2, hfz21_3, hfz21_4⟩ := cl5_ BK303.out) | ((with_reducible refine gate_callee (f := 14) rfl ?_); refine goesL_ (some 9) rfl rfl Try.func14 kr_ rfl #[.agg #[.slice A0_0 l0_0.length c0_0, .slice A0_1 l0_1.length c0_1, .slice A0_2 l0_2.length c0_2, .int .i64 a0_3, .int .i64 a0_4]] rfl km_ ?_; (with_reducible refine (impl_ValidHead.calls k _ _ l0_0 _ _ l0_1 _ _ l0_2 a0_3 a0_4 true _ ?side1 ?side2 ?side3 ?side4 ?side5 ?side6 A4.out).mono ?_); (case side1 => repeat (first | exact (Kd.C_below HR0_0.out HB.out) | (with_reducible first | refine Kd.C_alloc ?_ _ | refine Kd.C_drewN ?_ _ | refine Kd.C_drew ?_))); (case side2 => exact HC0_0.out); (case side3 => repeat (first | exact (Kd.C_below HR0_1.out HB.out) | (with_reducible first | refine Kd.C_alloc ?_ _ | refine Kd.C_drewN ?_ _ | refine Kd.C_drew ?_))); (case side4 => exact HC0_1.out); (case side5 => repeat (first | exact (Kd.C_below HR0_2.out HB.out) | (with_reducible first | refine Kd.C_alloc ?_ _ | refine Kd.C_drewN ?_ _ | refine Kd.C_drew ?_))); (case side6 => exact HC0_2.out); rintro e w22 ⟨rfl, hb⟩; refine ⟨_, rfl, ?_⟩; have n0_ := Aside0.mk (blk_below (kb0_ BK303.out) hb); have n1_ := Aside0.mk (below_step (ke_ HB.out) hb); clear BK303; clear HB; have BK303 := n0_; have HB := n1_; clear n0_ n1_; (try clear hb hb2 hk hi); obtain ⟨hcz23_0, hcz23_1, hcz23_2, hcz23_3, hcz23_4, hfz23_0, hfz23_1, hfz23_2, hfz23_3, hfz23_4⟩ := cl5_ BK303.out) | (go_at_call 42; (with_reducible refine (impl_within.calls a1 0 (wrap64 ((l0_0.length : Int) - 1)) false _ A6.out).mono ?_); rintro e w' ⟨rfl, ⟨nd, rfl⟩⟩))
   go_ret2
   exact ⟨by first | rfl | (simp [errW_none, errW_some] <;> rfl) | (simp [*, errW_none, errW_some] <;> rfl) | (simp [tz_, *]; done), ke_ HB.out⟩
 ·replace c5 := Bool.eq_false_iff.mpr c5; subst c5; (have H1 : (some (0, false)) = some (r1, r2) := by rw [if_neg (show ¬ (false = true) by decide)] at H; exact H); clear H; have H := H1; clear H1; simp only [Option.some.injEq, Prod.mk.injEq] at H; obtain ⟨rfl, rfl⟩ := H
  go_enter Try.func16, Try.ntmps16
  go_wp2_with (first | ((with_reducible refine gate_dst (N := 3) rfl ?_); (try (refine gate_guard (by rfl) ?_; dsimp only)); refine box_event (by rfl) (N := 3) (by rfl) (cs := #[.slice A0_0 l0_0.length c0_0, .slice A0_1 l0_1.length c0_1, .slice A0_2 l0_2.length c0_2, .int .i64 a0_3, .int .i64 a0_4]) (t := 27) kg_ ?_; intro gb303 hg w24 hbox hb; have n0_ := Aside0.mk (below_step (kh0_ HB.out) hb); have n1_ := Aside0.mk (hbox); have n2_ := kw_ (w := w) hg (kh0_ HB.out); have n3_ := kw_ (w := w) hg (kh0_ HB.out); clear HB; have HB := n0_; have BK303 := n1_; have GW303 := n2_; have GE303 := n3_; clear n0_ n1_ n2_ n3_; clear hb hbox hg; obtain ⟨hcz25_0, hcz25_1, hcz25_2, hcz25_3, hcz25_4, hfz25_0, hfz25_1, hfz25_2, hfz25_3, hfz25_4⟩ := cl5_ BK303.out) | ((with_reducible refine gate_callee (f := 14) rfl ?_); refine goesL_ (some 9) rfl rfl Try.func14 kr_ rfl #[.agg #[.slice A0_0 l0_0.length c0_0, .slice A0_1 l0_1.length c0_1, .slice A0_2 l0_2.length c0_2, .int .i64 a0_3, .int .i64 a0_4]] rfl km_ ?_; (with_reducible refine (impl_ValidHead.calls k _ _ l0_0 _ _ l0_1 _ _ l0_2 a0_3 a0_4 false _ ?side1 ?side2 ?side3 ?side4 ?side5 ?side6 A4.out).mono ?_); (case side1 => repeat (first | exact (Kd.C_below HR0_0.out HB.out) | (with_reducible first | refine Kd.C_alloc ?_ _ | refine Kd.C_drewN ?_ _ | refine Kd.C_drew ?_))); (case side2 => exact HC0_0.out); (case side3 => repeat (first | exact (Kd.C_below HR0_1.out HB.out) | (with_reducible first | refine Kd.C_alloc ?_ _ | refine Kd.C_drewN ?_ _ | refine Kd.C_drew ?_))); (case side4 => exact HC0_1.out); (case side5 => repeat (first | exact (Kd.C_below HR0_2.out HB.out) | (with_reducible first | refine Kd.C_alloc ?_ _ | refine Kd.C_drewN ?_ _ | refine Kd.C_drew ?_))); (case side6 => exact HC0_2.out); rintro e w26 ⟨rfl, hb⟩; refine ⟨_, rfl, ?_⟩; have n0_ := Aside0.mk (blk_below (kb0_ BK303.out) hb); have n1_ := Aside0.mk (below_step (ke_ HB.out) hb); clear BK303; clear HB; have BK303 := n0_; have HB := n1_; clear n0_ n1_; (try clear hb hb2 hk hi)))
  go_ret2
  exact ⟨by first | rfl | (simp [errW_none, errW_some] <;> rfl) | (simp [*, errW_none, errW_some] <;> rfl) | (simp [tz_, *]; done), ke_ HB.out⟩

mutual
def laws_FnNeeds.j0 : Nat → Int → List (List Int) → Bool → Int → Bool → List (S34) → List Int → List Int → Int → Int → Option (Bool)
 | 0, _, _, _, _, _, _, _, _, _, _ => none
 | k + 1, x6, x7, x8, x11, x59, x321000, x321001, x321002, x321003, x321004 => if x59 = true then (none) else (if x8 = true then (if x11 = (x7.length : Int) then (laws_FnNeeds.l0 k x6 x7 (([] : List Int)) 0 x321000 x321001 x321002 x321003 x321004) else (none)) else (some true))
def laws_FnNeeds.l0 : Nat → Int → List (List Int) → List Int → Int → List (S34) → List Int → List Int → Int → Int → Option (Bool)
 | 0, _, _, _, _, _, _, _, _, _ => none
 | k + 1, x6, x7, x13, x14, x321000, x321001, x321002, x321003, x321004 => if x14 < (x7.length : Int) then (if 0 ≤ x14 then (if ((rd_L3 x7 x14).length : Int) = 2 then (if 0 < ((rd_L3 x7 x14).length : Int) then (if (rd (rd_L3 x7 x14) 0) < 0 then (none) else (if 1 < ((rd_L3 x7 x14).length : Int) then (if (rd (rd_L3 x7 x14) 0) ≥ (rd (rd_L3 x7 x14) 1) then (none) else (laws_FnNeeds.j2 k x6 x7 x13 x14 (decide ((rd (rd_L3 x7 x14) 1) ≥ (x321001.length : Int))) x321000 x321001 x321002 x321003 x321004)) else (none))) else (none)) else (none)) else (none)) else (some true)
def laws_FnNeeds.j2 : Nat → Int → List (List Int) → List Int → Int → Bool → List (S34) → List Int → List Int → Int → Int → Option (Bool)
 | 0, _, _, _, _, _, _, _, _, _, _ => none
 | k + 1, x6, x7, x13, x14, x114, x321000, x321001, x321002, x321003, x321004 => if x114 = true then (none) else (if 0 ≤ x14 then (if x14 < (x7.length : Int) then (if 0 < ((rd_L3 x7 x14).length : Int) then (laws_FnNeeds.l1 k x6 x7 x13 x14 0 (rd (rd_L3 x7 x14) 0) x321000 x321001 x321002 x321003 x321004) else (none)) else (none)) else (none))
def laws_FnNeeds.l1 : Nat → Int → List (List Int) → List Int → Int → Int → Int → List (S34) → List Int → List Int → Int → Int → Option (Bool)
 | 0, _, _, _, _, _, _, _, _, _, _, _ => none
 | k + 1, x6, x7, x13, x14, x15, x16, x321000, x321001, x321002, x321003, x321004 => if 0 ≤ x14 then (if x14 < (x7.length : Int) then (if 1 < ((rd_L3 x7 x14).length : Int) then (if x16 ≤ (rd (rd_L3 x7 x14) 1) then (if 0 ≤ x6 then (if x6 < (x321000.length : Int) then (if 0 ≤ x16 then (if x16 < (x321001.length : Int) then (if 0 < ((rd_L3 x7 x14).length : Int) then (if x16 > (rd (rd_L3 x7 x14) 0) then ((laws_r8Has.f k x321002 x16).bind fun t366 => (laws_FnNeeds.j4 k x6 x7 x13 x14 (wrap64 (x15 + (wrap64 (((rd_T34 x321000 x6).f0) * (rd x321001 x16))))) x16 t366 x321000 x321001 x321002 x321003 x321004)) else (laws_FnNeeds.j4 k x6 x7 x13 x14 (wrap64 (x15 + (wrap64 (((rd_T34 x321000 x6).f0) * (rd x321001 x16))))) x16 false x321000 x321001 x321002 x321003 x321004)) else (none)) else (none)) else (none)) else (none)) else (none)) else (if 0 < ((rd_L3 x7 x14).length : Int) then ((impl_RangeOf.f k x321000 x321001 x321002 x321003 x321004 x6 (rd (rd_L3 x7 x14) 0)).bind fun bt355 => (if bt355.2 = true then (if 0 ≤ x6 then (if x6 < (x321000.length : Int) then (if x15 ≤ ((rd_T34 x321000 x6).f1) then (none) else (if bt355.1 = (wrap64 ((rd (rd_L3 x7 x14) 1) - (rd (rd_L3 x7 x14) 0))) then (laws_FnNeeds.l0 k x6 x7 x13 (wrap64 (x14 + 1)) x321000 x321001 x321002 x321003 x321004) else (none))) else (none)) else (none)) else (none))) else (none))) else (none)) else (none)) else (none)
def laws_FnNeeds.j4 : Nat → Int → List (List Int) → List Int → Int → Int → Int → Bool → List (S34) → List Int → List Int → Int → Int → Option (Bool)
 | 0, _, _, _, _, _, _, _, _, _, _, _, _ => none
 | k + 1, x6, x7, x13, x14, x15, x16, x158, x321000, x321001, x321002, x321003, x321004 => if x158 = true then ((laws_r8Has.f k x13 x16).bind fun t367 => (if t367 = true then (none) else (if x13.length < 17592186044416 then (laws_FnNeeds.l1 k x6 x7 (x13 ++ [x16]) x14 x15 (wrap64 (x16 + 1)) x321000 x321001 x321002 x321003 x321004) else (none)))) else (laws_FnNeeds.l1 k x6 x7 x13 x14 x15 (wrap64 (x16 + 1)) x321000 x321001 x321002 x321003 x321004)
end
def laws_FnNeeds.f (k : Nat) (l0 : List Int) (l1 : List Int) : Option (Bool) := (laws_r8Long.f l0 l1).bind fun t308 => (if t308 = true then (some true) else ((spec_R8Head.f k l0).bind fun bt309 => ((laws_r8At.f l1 0 (bt309.1.length : Int)).bind fun t321 => ((impl_NeedsOf.f k bt309.1 bt309.2.1 bt309.2.2.1 bt309.2.2.2.1 bt309.2.2.2.2 t321).bind fun bt322 => (if 0 ≤ t321 then (if t321 < (bt309.1.length : Int) then ((some (([(⟨(rd_T34 bt309.1 t321).f0, (rd_T34 bt309.1 t321).f1⟩ : S34)] : List (S34)) : List (S34))).bind fun y327 => ((impl_CheapestPlan.f k y327 bt309.2.1 bt309.2.2.1 0 1).bind fun bt331 => (if (bt322.2 != bt331.2.2) = true then (none) else ((impl_ValidHead.f k y327 bt309.2.1 bt309.2.2.1 0 1).bind fun t336 => (laws_FnNeeds.j0 k t321 bt322.1 bt322.2 bt331.2.1 (!t336) bt309.1 bt309.2.1 bt309.2.2.1 bt309.2.2.2.1 bt309.2.2.2.2))))) else (none)) else (none))))))
def laws_FnNeeds.T6 : Bool × List (List Nat × List Nat) := (true, [([], []), ([0], [0]), ([], []), ([1, 2], [1, 2]), ([3], [3]), ([4], [4]), ([], []), ([6], [6]), ([], []), ([8], [8]), ([5, 7, 9], [5, 7, 9]), ([], []), ([11, 10, 0, 1, 2, 3, 4, 5, 6, 7, 8, 9, 10, 11], [10, 11])])
def laws_FnNeeds.B6 : List Nat := [0, 1, 0, 7, 15, 31, 0, 64, 0, 256, 1023, 0, 4095]
theorem laws_FnNeeds.tab6 : rtab .any (opsOf Try.f3 6) = laws_FnNeeds.T6 := by kernel_rfl
theorem laws_FnNeeds.bits6 : waitsOk laws_FnNeeds.T6.2 laws_FnNeeds.B6 = true := by kernel_rfl
def laws_FnNeeds.T18 : Bool × List (List Nat × List Nat) := (true, [([], []), ([], []), ([0, 1], [0, 1]), ([2], [2]), ([3], [3]), ([4], [4]), ([5], [5]), ([6], [6]), ([6], [6]), ([7, 8, 6], [6, 7, 8]), ([9, 6], [6, 9]), ([10, 6], [6, 10]), ([11, 6], [6, 11]), ([12, 6], [6, 12]), ([6, 13], [6, 13]), ([14, 6], [14]), ([15], [15]), ([15], [15]), ([16, 17, 15], [15, 16, 17]), ([18, 15], [15, 18]), ([19, 15], [15, 19]), ([20, 15], [15, 20]), ([15], [15]), ([15], [15]), ([22, 23, 15], [15, 22, 23]), ([24, 15], [15, 24]), ([25, 15], [15, 25]), ([26, 15], [15, 26]), ([21, 27, 15], [15, 21, 27]), ([15, 28], [15, 28]), ([29, 15], [29]), ([30], [30]), ([30], [30]), ([31, 32, 30], [30, 31, 32]), ([33, 30], [30, 33]), ([34, 30], [30, 34]), ([35, 30], [30, 35]), ([30], [30]), ([37, 30], [30, 37]), ([38, 30], [30, 38]), ([36, 39, 30], [30, 36, 39]), ([30, 40], [30, 40])])
def laws_FnNeeds.B18 : List Nat := [0, 0, 3, 7, 15, 31, 63, 127, 127, 511, 1023, 2047, 4095, 8191, 16383, 32767, 65535, 65535, 262143, 524287, 1048575, 2097151, 65535, 65535, 12648447, 29425663, 62980095, 130088959, 268435455, 536870911, 1073741823, 2147483647, 2147483647, 8589934591, 17179869183, 34359738367, 68719476735, 2147483647, 139586437119, 414464344063, 1099511627775, 2199023255551]
theorem laws_FnNeeds.tab18 : rtab .any (opsOf Try.f3 18) = laws_FnNeeds.T18 := by kernel_rfl
theorem laws_FnNeeds.bits18 : waitsOk laws_FnNeeds.T18.2 laws_FnNeeds.B18 = true := by kernel_rfl
def laws_FnNeeds.T24 : Bool × List (List Nat × List Nat) := (true, [([], []), ([], []), ([1], [1]), ([], []), ([2, 3], [2, 3]), ([4], [4]), ([5], [5]), ([], []), ([7], [7]), ([], []), ([8, 9], [8, 9]), ([10], [10]), ([6, 11], [6, 11]), ([0, 12], [0, 12]), ([13, 0, 1, 2, 3, 4, 5, 6, 7, 8, 9, 10, 11, 12, 13], [0, 13])])
def laws_FnNeeds.B24 : List Nat := [0, 0, 2, 0, 14, 30, 62, 0, 128, 0, 896, 1920, 4094, 8191, 16383]
theorem laws_FnNeeds.tab24 : rtab .any (opsOf Try.f3 24) = laws_FnNeeds.T24 := by kernel_rfl
theorem laws_FnNeeds.bits24 : waitsOk laws_FnNeeds.T24.2 laws_FnNeeds.B24 = true := by kernel_rfl
def laws_FnNeeds.T29 : Bool × List (List Nat × List Nat) := (true, [([], []), ([], []), ([], []), ([], []), ([2, 3], [2, 3]), ([4], [4]), ([5], [5]), ([6], [6]), ([0, 1, 7], [0, 1, 7]), ([8], [8]), ([9], [9]), ([9], [9]), ([10, 8, 0, 1, 2, 3, 4, 5, 6, 7, 8, 9, 10], [10]), ([11, 12, 0, 1, 2, 3, 4, 5, 6, 7, 8, 9, 10, 11, 12], [11])])
def laws_FnNeeds.B29 : List Nat := [0, 0, 0, 0, 12, 28, 60, 124, 255, 511, 1023, 1023, 2047, 8191]
theorem laws_FnNeeds.tab29 : rtab .any (opsOf Try.f3 29) = laws_FnNeeds.T29 := by kernel_rfl
theorem laws_FnNeeds.bits29 : waitsOk laws_FnNeeds.T29.2 laws_FnNeeds.B29 = true := by kernel_rfl
def laws_FnNeeds.T30 : Bool × List (List Nat × List Nat) := (true, [([], []), ([0], [0]), ([1], [1]), ([2], [2]), ([2], [2]), ([4, 2], [2, 4]), ([2], [2]), ([5, 6, 2], [2, 5, 6]), ([7, 2], [2, 7]), ([8, 2], [2, 8]), ([3, 9, 2], [2, 3, 9]), ([2, 10], [2, 10]), ([11, 2], [11]), ([12], [12]), ([12], [12]), ([12], [12]), ([14, 15, 12], [12, 14, 15]), ([16, 12], [12, 16]), ([17, 12], [12, 17]), ([18, 12], [12, 18]), ([12], [12]), ([12], [12]), ([20, 21, 12], [12, 20, 21]), ([22, 12], [12, 22]), ([23, 12], [12, 23]), ([24, 12], [12, 24]), ([19, 25, 12], [12, 19, 25]), ([13, 26, 12], [12, 13, 26]), ([12, 27], [12, 27])])
def laws_FnNeeds.B30 : List Nat := [0, 1, 3, 7, 7, 23, 7, 119, 247, 503, 1023, 2047, 4095, 8191, 8191, 8191, 57343, 122879, 253951, 516095, 8191, 8191, 3153919, 7348223, 15736831, 32514047, 67100671, 134217727, 268435455]
theorem laws_FnNeeds.tab30 : rtab .any (opsOf Try.f3 30) = laws_FnNeeds.T30 := by kernel_rfl
theorem laws_FnNeeds.bits30 : waitsOk laws_FnNeeds.T30.2 laws_FnNeeds.B30 = true := by kernel_rfl


abbrev m3_0 : Array Bool := (fl_ 13 0).toArray
abbrev m3_1 : Array Bool := (fl_ 13 1).toArray
abbrev m3_2 : Array Bool := (fl_ 13 5).toArray
abbrev m3_3 : Array Bool := (fl_ 13 69).toArray
abbrev m3_4 : Array Bool := (fl_ 13 325).toArray
abbrev m3_5 : Array Bool := (fl_ 13 327).toArray
abbrev m3_6 : Array Bool := (fl_ 13 335).toArray
abbrev m3_7 : Array Bool := (fl_ 13 351).toArray
abbrev m3_8 : Array Bool := (fl_ 13 479).toArray
abbrev m3_9 : Array Bool := (fl_ 13 991).toArray
abbrev m3_10 : Array Bool := (fl_ 13 4095).toArray
abbrev m3_11 : Array Bool := (fl_ 13 1023).toArray
abbrev m3_12 : Array Bool := (fl_ 13 3039).toArray
abbrev m3_13 : Array Bool := (fl_ 13 2047).toArray
abbrev m3_14 : Array Bool := (fl_ 13 3071).toArray
abbrev m3_15 : Array Bool := (fl_ 13 8191).toArray
abbrev m3_16 : Array Bool := (fl_ 42 0).toArray
abbrev m3_17 : Array Bool := (fl_ 42 1).toArray
abbrev m3_18 : Array Bool := (fl_ 42 3).toArray
abbrev m3_19 : Array Bool := (fl_ 42 7).toArray
abbrev m3_20 : Array Bool := (fl_ 42 15).toArray
abbrev m3_21 : Array Bool := (fl_ 42 31).toArray
abbrev m3_22 : Array Bool := (fl_ 42 63).toArray
abbrev m3_23 : Array Bool := (fl_ 42 127).toArray
abbrev m3_24 : Array Bool := (fl_ 42 255).toArray
abbrev m3_25 : Array Bool := (fl_ 42 511).toArray
abbrev m3_26 : Array Bool := (fl_ 42 1023).toArray
abbrev m3_27 : Array Bool := (fl_ 42 2047).toArray
abbrev m3_28 : Array Bool := (fl_ 42 4095).toArray
abbrev m3_29 : Array Bool := (fl_ 42 8191).toArray
abbrev m3_30 : Array Bool := (fl_ 42 16383).toArray
abbrev m3_31 : Array Bool := (fl_ 42 32767).toArray
abbrev m3_32 : Array Bool := (fl_ 42 65535).toArray
abbrev m3_33 : Array Bool := (fl_ 42 131071).toArray
abbrev m3_34 : Array Bool := (fl_ 42 262143).toArray
abbrev m3_35 : Array Bool := (fl_ 42 524287).toArray
abbrev m3_36 : Array Bool := (fl_ 42 4718591).toArray
abbrev m3_37 : Array Bool := (fl_ 42 13107199).toArray
abbrev m3_38 : Array Bool := (fl_ 42 29884415).toArray
abbrev m3_39 : Array Bool := (fl_ 42 30408703).toArray
abbrev m3_40 : Array Bool := (fl_ 42 31457279).toArray
abbrev m3_41 : Array Bool := (fl_ 42 33554431).toArray
abbrev m3_42 : Array Bool := (fl_ 42 67108863).toArray
abbrev m3_43 : Array Bool := (fl_ 42 134217727).toArray
abbrev m3_44 : Array Bool := (fl_ 42 268435455).toArray
abbrev m3_45 : Array Bool := (fl_ 42 536870911).toArray
abbrev m3_46 : Array Bool := (fl_ 42 1073741823).toArray
abbrev m3_47 : Array Bool := (fl_ 42 2147483647).toArray
abbrev m3_48 : Array Bool := (fl_ 42 4294967295).toArray
abbrev m3_49 : Array Bool := (fl_ 42 8589934591).toArray
abbrev m3_50 : Array Bool := (fl_ 42 17179869183).toArray
abbrev m3_51 : Array Bool := (fl_ 42 154618822655).toArray
abbrev m3_52 : Array Bool := (fl_ 42 171798691839).toArray
abbrev m3_53 : Array Bool := (fl_ 42 206158430207).toArray
abbrev m3_54 : Array Bool := (fl_ 42 274877906943).toArray
abbrev m3_55 : Array Bool := (fl_ 42 549755813887).toArray
abbrev m3_56 : Array Bool := (fl_ 42 1099511627775).toArray
abbrev m3_57 : Array Bool := (fl_ 42 2199023255551).toArray
abbrev m3_58 : Array Bool := (fl_ 42 4398046511103).toArray
abbrev m3_59 : Array Bool := (fl_ 15 0).toArray
abbrev m3_60 : Array Bool := (fl_ 15 1).toArray
abbrev m3_61 : Array Bool := (fl_ 15 3).toArray
abbrev m3_62 : Array Bool := (fl_ 15 11).toArray
abbrev m3_63 : Array Bool := (fl_ 15 139).toArray
abbrev m3_64 : Array Bool := (fl_ 15 651).toArray
abbrev m3_65 : Array Bool := (fl_ 15 655).toArray
abbrev m3_66 : Array Bool := (fl_ 15 671).toArray
abbrev m3_67 : Array Bool := (fl_ 15 703).toArray
abbrev m3_68 : Array Bool := (fl_ 15 767).toArray
abbrev m3_69 : Array Bool := (fl_ 15 1023).toArray
abbrev m3_70 : Array Bool := (fl_ 15 2047).toArray
abbrev m3_71 : Array Bool := (fl_ 15 4095).toArray
abbrev m3_72 : Array Bool := (fl_ 15 8191).toArray
abbrev m3_73 : Array Bool := (fl_ 15 16383).toArray
abbrev m3_74 : Array Bool := (fl_ 15 32767).toArray
abbrev m3_75 : Array Bool := (fl_ 14 0).toArray
abbrev m3_76 : Array Bool := (fl_ 14 2).toArray
abbrev m3_77 : Array Bool := (fl_ 14 6).toArray
abbrev m3_78 : Array Bool := (fl_ 14 14).toArray
abbrev m3_79 : Array Bool := (fl_ 14 30).toArray
abbrev m3_80 : Array Bool := (fl_ 14 31).toArray
abbrev m3_81 : Array Bool := (fl_ 14 63).toArray
abbrev m3_82 : Array Bool := (fl_ 14 127).toArray
abbrev m3_83 : Array Bool := (fl_ 14 255).toArray
abbrev m3_84 : Array Bool := (fl_ 14 511).toArray
abbrev m3_85 : Array Bool := (fl_ 14 1023).toArray
abbrev m3_86 : Array Bool := (fl_ 14 2047).toArray
abbrev m3_87 : Array Bool := (fl_ 14 4095).toArray
abbrev m3_88 : Array Bool := (fl_ 14 8191).toArray
abbrev m3_89 : Array Bool := (fl_ 14 16383).toArray
abbrev m3_90 : Array Bool := (fl_ 29 0).toArray
abbrev m3_91 : Array Bool := (fl_ 29 1).toArray
abbrev m3_92 : Array Bool := (fl_ 29 3).toArray
abbrev m3_93 : Array Bool := (fl_ 29 7).toArray
abbrev m3_94 : Array Bool := (fl_ 29 15).toArray
abbrev m3_95 : Array Bool := (fl_ 29 31).toArray
abbrev m3_96 : Array Bool := (fl_ 29 95).toArray
abbrev m3_97 : Array Bool := (fl_ 29 127).toArray
abbrev m3_98 : Array Bool := (fl_ 29 255).toArray
abbrev m3_99 : Array Bool := (fl_ 29 511).toArray
abbrev m3_100 : Array Bool := (fl_ 29 1023).toArray
abbrev m3_101 : Array Bool := (fl_ 29 2047).toArray
abbrev m3_102 : Array Bool := (fl_ 29 4095).toArray
abbrev m3_103 : Array Bool := (fl_ 29 8191).toArray
abbrev m3_104 : Array Bool := (fl_ 29 16383).toArray
abbrev m3_105 : Array Bool := (fl_ 29 32767).toArray
abbrev m3_106 : Array Bool := (fl_ 29 65535).toArray
abbrev m3_107 : Array Bool := (fl_ 29 131071).toArray
abbrev m3_108 : Array Bool := (fl_ 29 1179647).toArray
abbrev m3_109 : Array Bool := (fl_ 29 3276799).toArray
abbrev m3_110 : Array Bool := (fl_ 29 7471103).toArray
abbrev m3_111 : Array Bool := (fl_ 29 7602175).toArray
abbrev m3_112 : Array Bool := (fl_ 29 7864319).toArray
abbrev m3_113 : Array Bool := (fl_ 29 8388607).toArray
abbrev m3_114 : Array Bool := (fl_ 29 16777215).toArray
abbrev m3_115 : Array Bool := (fl_ 29 33554431).toArray
abbrev m3_116 : Array Bool := (fl_ 29 67108863).toArray
abbrev m3_117 : Array Bool := (fl_ 29 134217727).toArray
abbrev m3_118 : Array Bool := (fl_ 29 268435455).toArray
abbrev m3_119 : Array Bool := (fl_ 29 536870911).toArray
set_option maxHeartbeats 8000000 in
set_option maxRecDepth 100000 in
theorem laws_FnNeeds.calls (k : Nat) (A0 : Option Addr) (c0 : Nat) (l0 : List Int) (A1 : Option Addr) (c1 : Nat) (l1 : List Int) (r : Bool) (w : World) (hr0 : Kd.C (Kd.int .u8) w A0 l0.length l0) (hc0 : l0.length ≤ c0) (hr1 : Kd.C (Kd.int .u8) w A1 l1.length l1) (hc1 : l1.length ≤ c1) (h : laws_FnNeeds.f k l0 l1 = some r) :
  Calls Try.prog 3 #[.slice A0 l0.length c0, .slice A1 l1.length c1] w fun e w' => e = .returned (.bool r) ∧ Below w.heap.size w w' := by
 have hu27 := Try.underlying27; have hu34 := Try.underlying34; have HR0 := Aside0.mk hr0; have HC0 := Aside0.mk hc0; clear hr0 hc0; have HR1 := Aside0.mk hr1; have HC1 := Aside0.mk hc1; clear hr1 hc1; have HB := Aside0.mk (Below.refl w.heap.size w); have H : ((laws_r8Long.f l0 l1).bind fun t308 => (if t308 = true then (some true) else ((spec_R8Head.f k l0).bind fun bt309 => ((laws_r8At.f l1 0 (bt309.1.length : Int)).bind fun t321 => ((impl_NeedsOf.f k bt309.1 bt309.2.1 bt309.2.2.1 bt309.2.2.2.1 bt309.2.2.2.2 t321).bind fun bt322 => (if 0 ≤ t321 then (if t321 < (bt309.1.length : Int) then ((some (([(⟨(rd_T34 bt309.1 t321).f0, (rd_T34 bt309.1 t321).f1⟩ : S34)] : List (S34)) : List (S34))).bind fun y327 => ((impl_CheapestPlan.f k y327 bt309.2.1 bt309.2.2.1 0 1).bind fun bt331 => (if (bt322.2 != bt331.2.2) = true then (none) else ((impl_ValidHead.f k y327 bt309.2.1 bt309.2.2.1 0 1).bind fun t336 => (laws_FnNeeds.j0 k t321 bt322.1 bt322.2 bt331.2.1 (!t336) bt309.1 bt309.2.1 bt309.2.2.1 bt309.2.2.2.1 bt309.2.2.2.2))))) else (none)) else (none))))))) = some r := h; clear h; replace H := Option.bind_eq_some_iff.mp H; obtain ⟨t308, A30, H⟩ := H; replace H : (if t308 = true then (some true) else ((spec_R8Head.f k l0).bind fun bt309 => ((laws_r8At.f l1 0 (bt309.1.length : Int)).bind fun t321 => ((impl_NeedsOf.f k bt309.1 bt309.2.1 bt309.2.2.1 bt309.2.2.2.1 bt309.2.2.2.2 t321).bind fun bt322 => (if 0 ≤ t321 then (if t321 < (bt309.1.length : Int) then ((some (([(⟨(rd_T34 bt309.1 t321).f0, (rd_T34 bt309.1 t321).f1⟩ : S34)] : List (S34)) : List (S34))).bind fun y327 => ((impl_CheapestPlan.f k y327 bt309.2.1 bt309.2.2.1 0 1).bind fun bt331 => (if (bt322.2 != bt331.2.2) = true then (none) else ((impl_ValidHead.f k y327 bt309.2.1 bt309.2.2.1 0 1).bind fun t336 => (laws_FnNeeds.j0 k t321 bt322.1 bt322.2 bt331.2.1 (!t336) bt309.1 bt309.2.1 bt309.2.2.1 bt309.2.2.2.1 bt309.2.2.2.2))))) else (none)) else (none)))))) = some r := H; have A3 := Aside0.mk A30; clear A30
 by_cases c4 : t308 = true
 ·subst c4; (have H1 : (some true) = some r := by rw [if_pos rfl] at H; exact H); clear H; have H := H1; clear H1; obtain rfl := Option.some.inj H
  go_enter Try.func3, Try.ntmps3
  go_wp2_with (first | ((with_reducible refine gate_callee (f := 9) rfl ?_); refine goesL_ (some 21) rfl rfl Try.func9 kr_ rfl #[.slice A0 l0.length c0, .slice A1 l1.length c1] rfl km_ ?_; (with_reducible refine (laws_r8Long.calls _ _ l0 _ _ l1 true _ ?side1 ?side2 ?side3 ?side4 A3.out).mono ?_); (case side1 => repeat (first | exact HR0.out | (with_reducible first | refine Kd.C_alloc ?_ _ | refine Kd.C_drewN ?_ _ | refine Kd.C_drew ?_))); (case side2 => exact HC0.out); (case side3 => repeat (first | exact HR1.out | (with_reducible first | refine Kd.C_alloc ?_ _ | refine Kd.C_drewN ?_ _ | refine Kd.C_drew ?_))); (case side4 => exact HC1.out); rintro e w' ⟨rfl, ⟨nd, rfl⟩⟩; refine ⟨_, rfl, ?_⟩))
  go_ret
  exact ⟨by first | rfl | (simp [errW_none, errW_some] <;> rfl) | (simp [*, errW_none, errW_some] <;> rfl) | (simp [tz_, *]; done), kh0_ HB.out⟩
 ·replace c4 := Bool.eq_false_iff.mpr c4; subst c4; (have H1 : ((spec_R8Head.f k l0).bind fun bt309 => ((laws_r8At.f l1 0 (bt309.1.length : Int)).bind fun t321 => ((impl_NeedsOf.f k bt309.1 bt309.2.1 bt309.2.2.1 bt309.2.2.2.1 bt309.2.2.2.2 t321).bind fun bt322 => (if 0 ≤ t321 then (if t321 < (bt309.1.length : Int) then ((some (([(⟨(rd_T34 bt309.1 t321).f0, (rd_T34 bt309.1 t321).f1⟩ : S34)] : List (S34)) : List (S34))).bind fun y327 => ((impl_CheapestPlan.f k y327 bt309.2.1 bt309.2.2.1 0 1).bind fun bt331 => (if (bt322.2 != bt331.2.2) = true then (none) else ((impl_ValidHead.f k y327 bt309.2.1 bt309.2.2.1 0 1).bind fun t336 => (laws_FnNeeds.j0 k t321 bt322.1 bt322.2 bt331.2.1 (!t336) bt309.1 bt309.2.1 bt309.2.2.1 bt309.2.2.2.1 bt309.2.2.2.2))))) else (none)) else (none))))) = some r := by rw [if_neg (show ¬ (false = true) by decide)] at H; exact H); clear H; have H := H1; clear H1; replace H := Option.bind_eq_some_iff.mp H; obtain ⟨⟨t309, t312, t315, t318, t319⟩, A50, H⟩ := H; replace H : ((laws_r8At.f l1 0 (t309.length : Int)).bind fun t321 => ((impl_NeedsOf.f k t309 t312 t315 t318 t319 t321).bind fun bt322 => (if 0 ≤ t321 then (if t321 < (t309.length : Int) then ((some (([(⟨(rd_T34 t309 t321).f0, (rd_T34 t309 t321).f1⟩ : S34)] : List (S34)) : List (S34))).bind fun y327 => ((impl_CheapestPlan.f k y327 t312 t315 0 1).bind fun bt331 => (if (bt322.2 != bt331.2.2) = true then (none) else ((impl_ValidHead.f k y327 t312 t315 0 1).bind fun t336 => (laws_FnNeeds.j0 k t321 bt322.1 bt322.2 bt331.2.1 (!t336) t309 t312 t315 t318 t319))))) else (none)) else (none)))) = some r := H; have A5 := Aside0.mk A50; clear A50; replace H := Option.bind_eq_some_iff.mp H; obtain ⟨t321, A60, H⟩ := H; replace H : ((impl_NeedsOf.f k t309 t312 t315 t318 t319 t321).bind fun bt322 => (if 0 ≤ t321 then (if t321 < (t309.length : Int) then ((some (([(⟨(rd_T34 t309 t321).f0, (rd_T34 t309 t321).f1⟩ : S34)] : List (S34)) : List (S34))).bind fun y327 => ((impl_CheapestPlan.f k y327 t312 t315 0 1).bind fun bt331 => (if (bt322.2 != bt331.2.2) = true then (none) else ((impl_ValidHead.f k y327 t312 t315 0 1).bind fun t336 => (laws_FnNeeds.j0 k t321 bt322.1 bt322.2 bt331.2.1 (!t336) t309 t312 t315 t318 t319))))) else (none)) else (none))) = some r := H; have A6 := Aside0.mk A60; clear A60; replace H := Option.bind_eq_some_iff.mp H; obtain ⟨⟨t322, t325⟩, A70, H⟩ := H; replace H : (if 0 ≤ t321 then (if t321 < (t309.length : Int) then ((some (([(⟨(rd_T34 t309 t321).f0, (rd_T34 t309 t321).f1⟩ : S34)] : List (S34)) : List (S34))).bind fun y327 => ((impl_CheapestPlan.f k y327 t312 t315 0 1).bind fun bt331 => (if (t325 != bt331.2.2) = true then (none) else ((impl_ValidHead.f k y327 t312 t315 0 1).bind fun t336 => (laws_FnNeeds.j0 k t321 t322 t325 bt331.2.1 (!t336) t309 t312 t315 t318 t319))))) else (none)) else (none)) = some r := H; have A7 := Aside0.mk A70; clear A70
  by_cases c8 : 0 ≤ t321
  ·rw [if_pos c8] at H; have c8b0 : decide (0 ≤ t321) = true := decide_eq_true c8; clear c8
   by_cases c9 : t321 < (t309.length : Int)
   ·rw [if_pos c9] at H; have c9b0 : decide (t321 < (t309.length : Int)) = true := decide_eq_true c9; clear c9; obtain ⟨y327, hy327⟩ : ∃ y_ : List (S34), y_ = (([(⟨(rd_T34 t309 t321).f0, (rd_T34 t309 t321).f1⟩ : S34)] : List (S34))) := ⟨_, rfl⟩; (replace H : ((impl_CheapestPlan.f k y327 t312 t315 0 1).bind fun bt331 => (if (t325 != bt331.2.2) = true then (none) else ((impl_ValidHead.f k y327 t312 t315 0 1).bind fun t336 => (laws_FnNeeds.j0 k t321 t322 t325 bt331.2.1 (!t336) t309 t312 t315 t318 t319)))) = some r := by first | (rw [hy327]; with_reducible exact H) | (have H2_ := (Option.bind_some _ _).symm.trans H; rw [hy327]; with_reducible exact H2_) | (have H2_ := (Option.bind_some _ _).symm.trans H; with_reducible exact H2_) | with_reducible exact H | (rw [hy327]; exact H) | exact H); have Ny327 := Aside0.mk hy327; clear hy327; replace H := Option.bind_eq_some_iff.mp H; obtain ⟨⟨t331, t334, t335⟩, A100, H⟩ := H; replace H : (if (t325 != t335) = true then (none) else ((impl_ValidHead.f k y327 t312 t315 0 1).bind fun t336 => (laws_FnNeeds.j0 k t321 t322 t325 t334 (!t336) t309 t312 t315 t318 t319))) = some r := H; have A10 := Aside0.mk A100; clear A100; have HC11 := Aside0.mk H; clear H
    go_enter Try.func3, Try.ntmps3
    (try go_wp2_with (first | ((with_reducible refine gate_callee (f := 9) rfl ?_); refine goesL_ (some 21) rfl rfl Try.func9 kr_ rfl #[.slice A0 l0.length c0, .slice A1 l1.length c1] rfl km_ ?_; (with_reducible refine (laws_r8Long.calls _ _ l0 _ _ l1 false _ ?side1 ?side2 ?side3 ?side4 A3.out).mono ?_); (case side1 => repeat (first | exact HR0.out | (with_reducible first | refine Kd.C_alloc ?_ _ | refine Kd.C_drewN ?_ _ | refine Kd.C_drew ?_))); (case side2 => exact HC0.out); (case side3 => repeat (first | exact HR1.out | (with_reducible first | refine Kd.C_alloc ?_ _ | refine Kd.C_drewN ?_ _ | refine Kd.C_drew ?_))); (case side4 => exact HC1.out); rintro e w' ⟨rfl, ⟨nd, rfl⟩⟩; refine ⟨_, rfl, ?_⟩) | ((with_reducible refine gate_callee (f := 10) rfl ?_); refine goesL_ (some 23) rfl rfl Try.func10 kr_ rfl #[.slice A0 l0.length c0] rfl km_ ?_; (with_reducible refine (spec_R8Head.calls k _ _ l0 t309 t312 t315 t318 t319 _ ?side1 ?side2 A5.out).mono ?_); (case side1 => repeat (first | exact HR0.out | (with_reducible first | refine Kd.C_alloc ?_ _ | refine Kd.C_drewN ?_ _ | refine Kd.C_drew ?_))); (case side2 => exact HC0.out); rintro e w12 ⟨v310, v313, v316, rfl, ho0, ho1, ho2, hb⟩; refine ⟨_, rfl, ?_⟩; have n0_ := Aside0.mk (Kd.R_lower ho0 (below_size (kh0_ HB.out))); have n1_ := Aside0.mk (Kd.R_lower ho1 (below_size (kh0_ HB.out))); have n2_ := Aside0.mk (Kd.R_lower ho2 (below_size (kh0_ HB.out))); have n3_ := Aside0.mk (below_step (kh0_ HB.out) hb); clear HB; have HO311 := n0_; have HO314 := n1_; have HO317 := n2_; have HB := n3_; clear n0_ n1_ n2_ n3_; (try clear hb hb2 hk hi ho0 ho1 ho2)) | ((with_reducible refine gate_dst (N := 5) rfl ?_); (try (refine gate_guard (by rfl) ?_; dsimp only)); refine box_event (by rfl) (N := 5) (by rfl) (cs := #[.slice none 0 0, .slice none 0 0, .slice none 0 0, .int .i64 0, .int .i64 0]) (t := 27) kg_ ?_; intro gb320 hg w13 hbox hb; have n0_ := Aside0.mk (Kd.R_below (by (with_reducible repeat (first | apply Kd.R_alloc | apply Kd.R_drewN | apply Kd.R_drew)); exact HO311.out) hb); have n1_ := Aside0.mk (Kd.R_below (by (with_reducible repeat (first | apply Kd.R_alloc | apply Kd.R_drewN | apply Kd.R_drew)); exact HO314.out) hb); have n2_ := Aside0.mk (Kd.R_below (by (with_reducible repeat (first | apply Kd.R_alloc | apply Kd.R_drewN | apply Kd.R_drew)); exact HO317.out) hb); have n3_ := Aside0.mk (below_step (kh0_ HB.out) hb); have n4_ := Aside0.mk (hbox); have n5_ := kw_ (w := w) hg (kh0_ HB.out); have n6_ := kw_ (w := w) hg (kh0_ HB.out); clear HO311; clear HO314; clear HO317; clear HB; have HO311 := n0_; have HO314 := n1_; have HO317 := n2_; have HB := n3_; have BK320 := n4_; have GW320 := n5_; have GE320 := n6_; clear n0_ n1_ n2_ n3_ n4_ n5_ n6_; clear hb hbox hg; obtain ⟨Ao14, co14, eo14⟩ := Kd.R_slice HO311.out; subst eo14; obtain ⟨hcz15_0, hcz15_1, hcz15_2, hcz15_3, hcz15_4, hfz15_0, hfz15_1, hfz15_2, hfz15_3, hfz15_4⟩ := cl5_ BK320.out; obtain ⟨Ao16, co16, eo16⟩ := Kd.R_slice HO314.out; subst eo16; obtain ⟨Ao17, co17, eo17⟩ := Kd.R_slice HO317.out; subst eo17) | ((with_reducible refine gate_callee (f := 11) rfl ?_); refine goesL_ (some 28) rfl rfl Try.func11 kr_ rfl #[.slice A1 l1.length c1, .int .i64 0, .int .i64 (t309.length : Int)] rfl km_ ?_; (with_reducible refine (laws_r8At.calls _ _ l1 0 (t309.length : Int) t321 _ ?side1 ?side2 A6.out).mono ?_); (case side1 => exact Kd.C_below HR1.out (ke_ HB.out)); (case side2 => exact HC1.out); rintro e w' ⟨rfl, ⟨nd, rfl⟩⟩; refine ⟨_, rfl, ?_⟩) | ((with_reducible refine gate_callee (f := 12) rfl ?_); refine goesL_ (some 32) rfl rfl Try.func12 kr_ rfl #[.agg #[.slice Ao14 t309.length co14, .slice Ao16 t312.length co16, .slice Ao17 t315.length co17, .int .i64 t318, .int .i64 t319], .int .i64 t321] rfl km_ ?_; (with_reducible refine (impl_NeedsOf.calls k _ _ t309 _ _ t312 _ _ t315 t318 t319 t321 t322 t325 _ ?side1 ?side2 ?side3 ?side4 ?side5 ?side6 A7.out).mono ?_); (case side1 => refine (Kd.R_reads' (e := 34) (base := w.heap.size) (ok := fun k_ => True) (n := t309.length) (c := co14) ?_).2.2; exact (by (with_reducible repeat (first | apply Kd.R_alloc | apply Kd.R_drewN | apply Kd.R_drew)); exact (Kd.R_mono (Kd.R_far (p := ⟨gb320, 4, none⟩) (Kd.R_far (p := ⟨gb320, 3, none⟩) (Kd.R_far (p := ⟨gb320, 2, none⟩) (Kd.R_far (p := ⟨gb320, 1, none⟩) (Kd.R_far (p := ⟨gb320, 0, none⟩) (Kd.R_types HO311.out BK320.out (by decide)) (fun _ hk => hk.2) (.slice Ao14 t309.length co14)) (fun _ hk => hk.2) (.slice Ao16 t312.length co16)) (fun _ hk => hk.2) (.slice Ao17 t315.length co17)) (fun _ hk => hk.2) (.int .i64 t318)) (fun _ hk => hk.2) (.int .i64 t319)) (fun _ h_ => h_.1)))); (case side2 => exact (Kd.R_reads' HO311.out).2.1); (case side3 => refine (Kd.R_reads' (e := 2) (base := w.heap.size) (ok := fun k_ => some k_ ≠ (.slice Ao17 t315.length co17 : Value).ownBlock) (n := t312.length) (c := co16) ?_).2.2; exact (by (with_reducible repeat (first | apply Kd.R_alloc | apply Kd.R_drewN | apply Kd.R_drew)); exact (Kd.R_mono (Kd.R_far (p := ⟨gb320, 4, none⟩) (Kd.R_far (p := ⟨gb320, 3, none⟩) (Kd.R_far (p := ⟨gb320, 2, none⟩) (Kd.R_far (p := ⟨gb320, 1, none⟩) (Kd.R_far (p := ⟨gb320, 0, none⟩) (Kd.R_types HO314.out BK320.out (by decide)) (fun _ hk => hk.2) (.slice Ao14 t309.length co14)) (fun _ hk => hk.2) (.slice Ao16 t312.length co16)) (fun _ hk => hk.2) (.slice Ao17 t315.length co17)) (fun _ hk => hk.2) (.int .i64 t318)) (fun _ hk => hk.2) (.int .i64 t319)) (fun _ h_ => h_.1)))); (case side4 => exact (Kd.R_reads' HO314.out).2.1); (case side5 => refine (Kd.R_reads' (e := 2) (base := w.heap.size) (ok := fun k_ => some k_ ≠ (.slice Ao16 t312.length co16 : Value).ownBlock) (n := t315.length) (c := co17) ?_).2.2; exact (by (with_reducible repeat (first | apply Kd.R_alloc | apply Kd.R_drewN | apply Kd.R_drew)); exact (Kd.R_mono (Kd.R_far (p := ⟨gb320, 4, none⟩) (Kd.R_far (p := ⟨gb320, 3, none⟩) (Kd.R_far (p := ⟨gb320, 2, none⟩) (Kd.R_far (p := ⟨gb320, 1, none⟩) (Kd.R_far (p := ⟨gb320, 0, none⟩) (Kd.R_types HO317.out BK320.out (by decide)) (fun _ hk => hk.2) (.slice Ao14 t309.length co14)) (fun _ hk => hk.2) (.slice Ao16 t312.length co16)) (fun _ hk => hk.2) (.slice Ao17 t315.length co17)) (fun _ hk => hk.2) (.int .i64 t318)) (fun _ hk => hk.2) (.int .i64 t319)) (fun _ h_ => h_.1)))); (case side6 => exact (Kd.R_reads' HO317.out).2.1); rintro e w18 ⟨v323, rfl, ho0, hb⟩; refine ⟨_, rfl, ?_⟩; have n0_ := Aside0.mk (Kd.R_below (by (with_reducible repeat (first | apply Kd.R_alloc | apply Kd.R_drewN | apply Kd.R_drew)); exact (Kd.R_mono (Kd.R_far (p := ⟨gb320, 4, none⟩) (Kd.R_far (p := ⟨gb320, 3, none⟩) (Kd.R_far (p := ⟨gb320, 2, none⟩) (Kd.R_far (p := ⟨gb320, 1, none⟩) (Kd.R_far (p := ⟨gb320, 0, none⟩) (Kd.R_types HO311.out BK320.out (by decide)) (fun _ hk => hk.2) (.slice Ao14 t309.length co14)) (fun _ hk => hk.2) (.slice Ao16 t312.length co16)) (fun _ hk => hk.2) (.slice Ao17 t315.length co17)) (fun _ hk => hk.2) (.int .i64 t318)) (fun _ hk => hk.2) (.int .i64 t319)) (fun _ h_ => h_.1))) hb); have n1_ := Aside0.mk (Kd.R_below (by (with_reducible repeat (first | apply Kd.R_alloc | apply Kd.R_drewN | apply Kd.R_drew)); exact (Kd.R_mono (Kd.R_far (p := ⟨gb320, 4, none⟩) (Kd.R_far (p := ⟨gb320, 3, none⟩) (Kd.R_far (p := ⟨gb320, 2, none⟩) (Kd.R_far (p := ⟨gb320, 1, none⟩) (Kd.R_far (p := ⟨gb320, 0, none⟩) (Kd.R_types HO314.out BK320.out (by decide)) (fun _ hk => hk.2) (.slice Ao14 t309.length co14)) (fun _ hk => hk.2) (.slice Ao16 t312.length co16)) (fun _ hk => hk.2) (.slice Ao17 t315.length co17)) (fun _ hk => hk.2) (.int .i64 t318)) (fun _ hk => hk.2) (.int .i64 t319)) (fun _ h_ => h_.1))) hb); have n2_ := Aside0.mk (Kd.R_below (by (with_reducible repeat (first | apply Kd.R_alloc | apply Kd.R_drewN | apply Kd.R_drew)); exact (Kd.R_mono (Kd.R_far (p := ⟨gb320, 4, none⟩) (Kd.R_far (p := ⟨gb320, 3, none⟩) (Kd.R_far (p := ⟨gb320, 2, none⟩) (Kd.R_far (p := ⟨gb320, 1, none⟩) (Kd.R_far (p := ⟨gb320, 0, none⟩) (Kd.R_types HO317.out BK320.out (by decide)) (fun _ hk => hk.2) (.slice Ao14 t309.length co14)) (fun _ hk => hk.2) (.slice Ao16 t312.length co16)) (fun _ hk => hk.2) (.slice Ao17 t315.length co17)) (fun _ hk => hk.2) (.int .i64 t318)) (fun _ hk => hk.2) (.int .i64 t319)) (fun _ h_ => h_.1))) hb); have n3_ := Aside0.mk (Kd.S_lower (Kd.S_new' (Kd.S_new' ho0 (Kd.R_lt (by (with_reducible repeat (first | apply Kd.R_alloc | apply Kd.R_drewN | apply Kd.R_drew)); exact (Kd.R_mono (Kd.R_far (p := ⟨gb320, 4, none⟩) (Kd.R_far (p := ⟨gb320, 3, none⟩) (Kd.R_far (p := ⟨gb320, 2, none⟩) (Kd.R_far (p := ⟨gb320, 1, none⟩) (Kd.R_far (p := ⟨gb320, 0, none⟩) (Kd.R_types HO314.out BK320.out (by decide)) (fun _ hk => hk.2) (.slice Ao14 t309.length co14)) (fun _ hk => hk.2) (.slice Ao16 t312.length co16)) (fun _ hk => hk.2) (.slice Ao17 t315.length co17)) (fun _ hk => hk.2) (.int .i64 t318)) (fun _ hk => hk.2) (.int .i64 t319)) (fun _ h_ => h_.1))))) (Kd.R_lt (by (with_reducible repeat (first | apply Kd.R_alloc | apply Kd.R_drewN | apply Kd.R_drew)); exact (Kd.R_mono (Kd.R_far (p := ⟨gb320, 4, none⟩) (Kd.R_far (p := ⟨gb320, 3, none⟩) (Kd.R_far (p := ⟨gb320, 2, none⟩) (Kd.R_far (p := ⟨gb320, 1, none⟩) (Kd.R_far (p := ⟨gb320, 0, none⟩) (Kd.R_types HO317.out BK320.out (by decide)) (fun _ hk => hk.2) (.slice Ao14 t309.length co14)) (fun _ hk => hk.2) (.slice Ao16 t312.length co16)) (fun _ hk => hk.2) (.slice Ao17 t315.length co17)) (fun _ hk => hk.2) (.int .i64 t318)) (fun _ hk => hk.2) (.int .i64 t319)) (fun _ h_ => h_.1))))) (below_size (ke_ HB.out))); have n4_ := Aside0.mk (blk_below (g := gb320) (o := .cells #[.slice Ao14 t309.length co14, .slice Ao16 t312.length co16, .slice Ao17 t315.length co17, .int .i64 t318, .int .i64 t319] 27 (0, 0)) (by (with_reducible repeat (first | refine blk_drewN ?_ _ | refine blk_drew ?_ | refine blk_alloc ?_ _)); refine blk_put (cs := #[.slice Ao14 t309.length co14, .slice Ao16 t312.length co16, .slice Ao17 t315.length co17, .int .i64 t318, .int .i64 0]) ?_ 4 _ rfl; (with_reducible repeat (first | refine blk_drewN ?_ _ | refine blk_drew ?_ | refine blk_alloc ?_ _)); refine blk_put (cs := #[.slice Ao14 t309.length co14, .slice Ao16 t312.length co16, .slice Ao17 t315.length co17, .int .i64 0, .int .i64 0]) ?_ 3 _ rfl; (with_reducible repeat (first | refine blk_drewN ?_ _ | refine blk_drew ?_ | refine blk_alloc ?_ _)); refine blk_put (cs := #[.slice Ao14 t309.length co14, .slice Ao16 t312.length co16, .slice none 0 0, .int .i64 0, .int .i64 0]) ?_ 2 _ rfl; (with_reducible repeat (first | refine blk_drewN ?_ _ | refine blk_drew ?_ | refine blk_alloc ?_ _)); refine blk_put (cs := #[.slice Ao14 t309.length co14, .slice none 0 0, .slice none 0 0, .int .i64 0, .int .i64 0]) ?_ 1 _ rfl; (with_reducible repeat (first | refine blk_drewN ?_ _ | refine blk_drew ?_ | refine blk_alloc ?_ _)); refine blk_put (cs := #[.slice none 0 0, .slice none 0 0, .slice none 0 0, .int .i64 0, .int .i64 0]) ?_ 0 _ rfl; (with_reducible repeat (first | refine blk_drewN ?_ _ | refine blk_drew ?_ | refine blk_alloc ?_ _)); exact BK320.out) hb); have n5_ := Aside0.mk (below_step (ke_ HB.out) hb); clear HO311; clear HO314; clear HO317; clear BK320; clear HB; have HO311 := n0_; have HO314 := n1_; have HO317 := n2_; have HO324 := n3_; have BK320 := n4_; have HB := n5_; clear n0_ n1_ n2_ n3_ n4_ n5_; (try clear hb hb2 hk hi ho0)))); have n0_ := Aside0.mk (Kd.R_drew HO311.out); have n1_ := Aside0.mk (Kd.R_drew HO314.out); have n2_ := Aside0.mk (Kd.R_drew HO317.out); have n3_ := Aside0.mk (Kd.S_drew HO324.out); have n4_ := Aside0.mk (blk_drew BK320.out); have n5_ := Aside0.mk (below_drew1 HB.out); clear HO311; clear HO314; clear HO317; clear HO324; clear BK320; clear HB; have HO311 := n0_; have HO314 := n1_; have HO317 := n2_; have HO324 := n3_; have BK320 := n4_; have HB := n5_; clear n0_ n1_ n2_ n3_ n4_ n5_; have p326 : 0 ≤ (t321 : Int) := of_decide_eq_true (by assumption); have q326 : t321 < (t309.length : Int) := of_decide_eq_true (by assumption); obtain ⟨ad326, e326, hx326_0, hx326_1⟩ := at_T34 (Kd.R_reads' HO311.out).2.2 t321 p326 q326
    cases e326
    replace p326 := eq_true p326; replace q326 := eq_true q326; refine start_ (n := 13) (S := fun w' => w'.cell? ⟨gb320, 0, none⟩ = some (.slice (some ad326) t309.length co14) ∧ w'.cell? ⟨gb320, 1, none⟩ = some (.slice Ao16 t312.length co16) ∧ w'.cell? ⟨gb320, 2, none⟩ = some (.slice Ao17 t315.length co17) ∧ w'.cell? ⟨gb320, 3, none⟩ = some (.int .i64 t318) ∧ w'.cell? ⟨gb320, 4, none⟩ = some (.int .i64 t319) ∧ w'.cell? (ad326.add ((t321).toNat * 2)) = some (.int .i64 ((rd_T34 t309 t321).f0)) ∧ w'.cell? ⟨(ad326.add ((t321).toNat * 2)).block, (ad326.add ((t321).toNat * 2)).off + 1, none⟩ = some (.int .i64 ((rd_T34 t309 t321).f1))) (ds := []) m3_0 kr_ rfl rfl ⟨(blk_cell BK320.out 0).trans rfl, (blk_cell BK320.out 1).trans rfl, (blk_cell BK320.out 2).trans rfl, (blk_cell BK320.out 3).trans rfl, (blk_cell BK320.out 4).trans rfl, hx326_0, hx326_1⟩ (fun hHeld => ?_); refine with_tabW laws_FnNeeds.tab6 laws_FnNeeds.bits6 (fun HT_ HW_ => ?_); generalize w18.drew = w19 at HO311 HO314 HO317 HO324 BK320 HB hx326_0 hx326_1 hHeld ⊢; refine pu1_ 0 (some 35) m3_1 rfl rfl HT_.out ?_; refine pu1_ 2 (some 37) m3_2 rfl rfl HT_.out ?_; refine pu1_ 6 (some 41) m3_3 rfl rfl HT_.out ?_; refine pu1_ 8 (some 43) m3_4 rfl rfl HT_.out ?_; refine tk7_ 1 (some 36) m3_5 rfl rfl HT_.out HW_.out hHeld ?_; refine pu1_ 3 (some 38) m3_6 rfl rfl HT_.out ?_; refine tk7_ 4 (some 39) m3_7 rfl rfl HT_.out HW_.out hHeld ?_; refine tk7_ 7 (some 42) m3_8 rfl rfl HT_.out HW_.out hHeld ?_; refine tk7_ 9 (some 44) m3_9 rfl rfl HT_.out HW_.out hHeld ?_; refine join_ (σ := Value × Nat) 1 m3_10 (fun s_ => [(40, s_.1), (9, .pointer (some ⟨s_.2, 0, none⟩)), (45, .agg #[s_.1, .slice Ao16 t312.length co16, .slice Ao17 t315.length co17, .int .i64 0, .int .i64 1])]) (fun s_ w' => (w'.cell? ⟨gb320, 0, none⟩ = some (.slice (some ad326) t309.length co14) ∧ w'.cell? ⟨gb320, 1, none⟩ = some (.slice Ao16 t312.length co16) ∧ w'.cell? ⟨gb320, 2, none⟩ = some (.slice Ao17 t315.length co17) ∧ w'.cell? ⟨gb320, 3, none⟩ = some (.int .i64 t318) ∧ w'.cell? ⟨gb320, 4, none⟩ = some (.int .i64 t319) ∧ w'.cell? (ad326.add ((t321).toNat * 2)) = some (.int .i64 ((rd_T34 t309 t321).f0)) ∧ w'.cell? ⟨(ad326.add ((t321).toNat * 2)).block, (ad326.add ((t321).toNat * 2)).off + 1, none⟩ = some (.int .i64 ((rd_T34 t309 t321).f1))) ∧ (Kd.R k34 34 w' w.heap.size (fun k_ => some k_ ≠ (s_.1 : Value).ownBlock) (.slice (some ad326) t309.length co14) t309) ∧ (Kd.R (Kd.int .i64) 2 w' w.heap.size (fun k_ => some k_ ≠ (.slice Ao17 t315.length co17 : Value).ownBlock) (.slice Ao16 t312.length co16) t312) ∧ (Kd.R (Kd.int .i64) 2 w' w.heap.size (fun k_ => some k_ ≠ (.slice Ao16 t312.length co16 : Value).ownBlock) (.slice Ao17 t315.length co17) t315) ∧ (Kd.S (Kd.slice 2 (Kd.int .i64)) 25 w' w.heap.size (fun k_ => some k_ ≠ (.slice Ao16 t312.length co16 : Value).ownBlock ∧ some k_ ≠ (.slice Ao17 t315.length co17 : Value).ownBlock) v323 t322) ∧ (Kd.R k34 34 w' w.heap.size (fun k_ => some k_ ≠ (.slice (some ad326) t309.length co14 : Value).ownBlock) s_.1 y327) ∧ (w'.heap[gb320]? = some (.cells #[.slice (some ad326) t309.length co14, .slice Ao16 t312.length co16, .slice Ao17 t315.length co17, .int .i64 t318, .int .i64 t319] 27 (0, 0))) ∧ (w'.heap[s_.2]? = some (.cells #[.slice none 0 0, .slice none 0 0, .slice none 0 0, .int .i64 0, .int .i64 0] 27 (0, 0))) ∧ (w.heap.size ≤ s_.2) ∧ (w.heap.size ≤ s_.2) ∧ (gb320 ≠ s_.2) ∧ (s_.2 ≠ gb320) ∧ (Below w.heap.size w w')) ?_ ?_; rotate_left
    ·intro hCont; refine two_ (i := 5) (j := 11) (Ni := some 40) (Nj := some 9) m3_11 m3_12 rfl rfl rfl rfl (two_of HT_.out kr_) (by decide) (by decide) (fun K hK => ?_) (fun K hK => ?_)
     ·skip
      refine Kd.R_lit_step k34 _ 34 ?hg (N := 40) ?hd (xs := ([(⟨(rd_T34 t309 t321).f0, (rd_T34 t309 t321).f1⟩ : S34)] : List (S34))) (inner := [.int .i64 ((rd_T34 t309 t321).f0), .int .i64 ((rd_T34 t309 t321).f1)]) (ok := fun _ => True) (okp := fun _ => True) ?hr ?hp (fun _ hk => hk) trivial (Below.refl _ _) (Nat.le_refl _) (by simp) ?_; (case hd => rfl); (case hg => rfl); (case hr => first | (go_simp; done) | (go_simp; rfl)); (case hp => exact (Reps.c2 (show Kd.M k34 _ _ _ (⟨(rd_T34 t309 t321).f0, (rd_T34 t309 t321).f1⟩ : S34) [.int .i64 ((rd_T34 t309 t321).f0), .int .i64 ((rd_T34 t309 t321).f1)] from (k34_mkM _ _ _ (⟨(rd_T34 t309 t321).f0, (rd_T34 t309 t321).f1⟩ : S34) )) (Reps.none _ _))); intro v328 w20 ho21 hb hg_ hnew_; have HS5_ := (hb.cell (World.block_lt_of_cell? _ _ (hHeld.2.2.2.2.2.1))).trans (hHeld.2.2.2.2.2.1); have HS6_ := (hb.cell (World.block_lt_of_cell? _ _ (hHeld.2.2.2.2.2.2))).trans (hHeld.2.2.2.2.2.2); clear hg_ hnew_
      (first | rw [← Ny327.out] at ho21 | (simp only [Int.reduceToNat] at ho21; rw [← Ny327.out] at ho21))
      have n0_ := Aside0.mk (Kd.R_elder' (by (with_reducible repeat (first | apply Kd.R_alloc | apply Kd.R_drewN | apply Kd.R_drew)); exact HO311.out) (Kd.R_base ho21) hb); have n1_ := Aside0.mk (Kd.R_below (by (with_reducible repeat (first | apply Kd.R_alloc | apply Kd.R_drewN | apply Kd.R_drew)); exact HO314.out) hb); have n2_ := Aside0.mk (Kd.R_below (by (with_reducible repeat (first | apply Kd.R_alloc | apply Kd.R_drewN | apply Kd.R_drew)); exact HO317.out) hb); have n3_ := Aside0.mk (Kd.S_below (by (with_reducible repeat (first | apply Kd.S_alloc | apply Kd.S_drewN | apply Kd.S_drew)); exact HO324.out) hb); have n4_ := Aside0.mk (Kd.R_lower (Kd.R_new' ho21 (Kd.R_lt (by (with_reducible repeat (first | apply Kd.R_alloc | apply Kd.R_drewN | apply Kd.R_drew)); exact HO311.out))) (below_size (ke_ HB.out))); have n5_ := Aside0.mk (blk_below (kb0_ BK320.out) hb); have n6_ := Aside0.mk (below_step (ke_ HB.out) hb); clear HO311; clear HO314; clear HO317; clear HO324; clear BK320; clear HB; have HO311 := n0_; have HO314 := n1_; have HO317 := n2_; have HO324 := n3_; have HO329 := n4_; have BK320 := n5_; have HB := n6_; clear n0_ n1_ n2_ n3_ n4_ n5_ n6_; clear hb ho21; obtain ⟨Ao22, co22, eo22⟩ := Kd.R_slice HO329.out
      (first | subst eo22 | (injection eo22 with f1_ f2_ f3_; have f4_ := f1_.symm; have f5_ := f3_.symm; clear f1_ f2_ f3_; subst f4_; subst f5_))
      refine hK.out _ _ ⟨(blk_cell BK320.out 0).trans rfl, (blk_cell BK320.out 1).trans rfl, (blk_cell BK320.out 2).trans rfl, (blk_cell BK320.out 3).trans rfl, (blk_cell BK320.out 4).trans rfl, HS5_, HS6_⟩ (fun hHeld => ?_); clear hK K; refine norm_ (a' := ?_) ?_ ?_; rotate_left
      ·show Act.put _ (some 40) _ = _
       simp only [Act.put, qa_, qz_, qs_, i64_w, i32_w]; rfl
      refine pu1_ 10 (some 45) m3_13 rfl rfl HT_.out ?_; refine one_ (i := 11) (N := some 9) m3_10 rfl rfl (one_of HT_.out kr_) (by decide) (fun K hK => ?_); refine box_step ?hg (N := 9) ?hd (cs := #[.slice none 0 0, .slice none 0 0, .slice none 0 0, .int .i64 0, .int .i64 0]) (t := 27) ?hr ?_; (case hd => rfl); (case hg => rfl); (case hr => first | (go_simp; done) | (go_simp; rfl)); intro gb330 hg w23 hbox hb; have HS5_ := (hb.cell (World.block_lt_of_cell? _ _ (hHeld.2.2.2.2.2.1))).trans (hHeld.2.2.2.2.2.1); have HS6_ := (hb.cell (World.block_lt_of_cell? _ _ (hHeld.2.2.2.2.2.2))).trans (hHeld.2.2.2.2.2.2); have n0_ := Aside0.mk (Kd.R_below (by (with_reducible repeat (first | apply Kd.R_alloc | apply Kd.R_drewN | apply Kd.R_drew)); exact HO311.out) hb); have n1_ := Aside0.mk (Kd.R_below (by (with_reducible repeat (first | apply Kd.R_alloc | apply Kd.R_drewN | apply Kd.R_drew)); exact HO314.out) hb); have n2_ := Aside0.mk (Kd.R_below (by (with_reducible repeat (first | apply Kd.R_alloc | apply Kd.R_drewN | apply Kd.R_drew)); exact HO317.out) hb); have n3_ := Aside0.mk (Kd.S_below (by (with_reducible repeat (first | apply Kd.S_alloc | apply Kd.S_drewN | apply Kd.S_drew)); exact HO324.out) hb); have n4_ := Aside0.mk (Kd.R_below (by (with_reducible repeat (first | apply Kd.R_alloc | apply Kd.R_drewN | apply Kd.R_drew)); exact HO329.out) hb); have n5_ := Aside0.mk (blk_below (kb0_ BK320.out) hb); have n6_ := Aside0.mk (below_step (ke_ HB.out) hb); have n7_ := Aside0.mk (hbox); have n8_ := kw_ (w := w) hg (ke_ HB.out); have n9_ := kw_ (w := w) hg (ke_ HB.out); have n10_ := kn_ hg (kb0_ BK320.out); have n11_ := Aside0.mk ((by rw [hg]; exact Nat.ne_of_gt (blk_lt (kb0_ BK320.out)) : gb330 ≠ gb320)); clear HO311; clear HO314; clear HO317; clear HO324; clear HO329; clear BK320; clear HB; have HO311 := n0_; have HO314 := n1_; have HO317 := n2_; have HO324 := n3_; have HO329 := n4_; have BK320 := n5_; have HB := n6_; have BK330 := n7_; have GW330 := n8_; have GE330 := n9_; have NB320_330 := n10_; have NB330_320 := n11_; clear n0_ n1_ n2_ n3_ n4_ n5_ n6_ n7_ n8_ n9_ n10_ n11_; clear hb hbox hg; refine hK.out _ _ ⟨(blk_cell BK320.out 0).trans rfl, (blk_cell BK320.out 1).trans rfl, (blk_cell BK320.out 2).trans rfl, (blk_cell BK320.out 3).trans rfl, (blk_cell BK320.out 4).trans rfl, HS5_, HS6_⟩ (fun hHeld => ?_); clear hK K; refine norm_ (a' := ?_) ?_ ?_; rotate_left
      ·show Act.put _ (some 9) _ = _
       simp only [Act.put, qa_, qz_, qs_, i64_w, i32_w]; rfl
      exact norm_ (by simp only [putAll, Act.put, qa_, qz_, qs_]) (hCont (.slice Ao22 y327.length co22, gb330) _ ⟨hHeld, (by (with_reducible repeat (first | apply Kd.R_alloc | apply Kd.R_drewN | apply Kd.R_drew)); exact Kd.R_mono HO311.out (fun _ hk => hk.2)), (by (with_reducible repeat (first | apply Kd.R_alloc | apply Kd.R_drewN | apply Kd.R_drew)); exact HO314.out), (by (with_reducible repeat (first | apply Kd.R_alloc | apply Kd.R_drewN | apply Kd.R_drew)); exact HO317.out), (by (with_reducible repeat (first | apply Kd.S_alloc | apply Kd.S_drewN | apply Kd.S_drew)); exact Kd.S_mono HO324.out (fun _ hk => ⟨hk.1.2, hk.2⟩)), (by (with_reducible repeat (first | apply Kd.R_alloc | apply Kd.R_drewN | apply Kd.R_drew)); exact Kd.R_mono HO329.out (fun _ hk => hk.2)), (kb0_ BK320.out), (kb0_ BK330.out), GW330.out, GE330.out, NB320_330.out, NB330_320.out, (ke_ HB.out)⟩)
     ·skip
      refine box_step ?hg (N := 9) ?hd (cs := #[.slice none 0 0, .slice none 0 0, .slice none 0 0, .int .i64 0, .int .i64 0]) (t := 27) ?hr ?_; (case hd => rfl); (case hg => rfl); (case hr => first | (go_simp; done) | (go_simp; rfl)); intro gb330 hg w20 hbox hb; have HS5_ := (hb.cell (World.block_lt_of_cell? _ _ (hHeld.2.2.2.2.2.1))).trans (hHeld.2.2.2.2.2.1); have HS6_ := (hb.cell (World.block_lt_of_cell? _ _ (hHeld.2.2.2.2.2.2))).trans (hHeld.2.2.2.2.2.2); have n0_ := Aside0.mk (Kd.R_below (by (with_reducible repeat (first | apply Kd.R_alloc | apply Kd.R_drewN | apply Kd.R_drew)); exact HO311.out) hb); have n1_ := Aside0.mk (Kd.R_below (by (with_reducible repeat (first | apply Kd.R_alloc | apply Kd.R_drewN | apply Kd.R_drew)); exact HO314.out) hb); have n2_ := Aside0.mk (Kd.R_below (by (with_reducible repeat (first | apply Kd.R_alloc | apply Kd.R_drewN | apply Kd.R_drew)); exact HO317.out) hb); have n3_ := Aside0.mk (Kd.S_below (by (with_reducible repeat (first | apply Kd.S_alloc | apply Kd.S_drewN | apply Kd.S_drew)); exact HO324.out) hb); have n4_ := Aside0.mk (blk_below (kb0_ BK320.out) hb); have n5_ := Aside0.mk (below_step (ke_ HB.out) hb); have n6_ := Aside0.mk (hbox); have n7_ := kw_ (w := w) hg (ke_ HB.out); have n8_ := kw_ (w := w) hg (ke_ HB.out); have n9_ := kn_ hg (kb0_ BK320.out); have n10_ := Aside0.mk ((by rw [hg]; exact Nat.ne_of_gt (blk_lt (kb0_ BK320.out)) : gb330 ≠ gb320)); clear HO311; clear HO314; clear HO317; clear HO324; clear BK320; clear HB; have HO311 := n0_; have HO314 := n1_; have HO317 := n2_; have HO324 := n3_; have BK320 := n4_; have HB := n5_; have BK330 := n6_; have GW330 := n7_; have GE330 := n8_; have NB320_330 := n9_; have NB330_320 := n10_; clear n0_ n1_ n2_ n3_ n4_ n5_ n6_ n7_ n8_ n9_ n10_; clear hb hbox hg; refine hK.out _ _ ⟨(blk_cell BK320.out 0).trans rfl, (blk_cell BK320.out 1).trans rfl, (blk_cell BK320.out 2).trans rfl, (blk_cell BK320.out 3).trans rfl, (blk_cell BK320.out 4).trans rfl, HS5_, HS6_⟩ (fun hHeld => ?_); clear hK K; refine norm_ (a' := ?_) ?_ ?_; rotate_left
      ·show Act.put _ (some 9) _ = _
       simp only [Act.put, qa_, qz_, qs_, i64_w, i32_w]; rfl
      refine one_ (i := 5) (N := some 40) m3_14 rfl rfl (one_of HT_.out kr_) (by decide) (fun K hK => ?_); refine Kd.R_lit_step k34 _ 34 ?hg (N := 40) ?hd (xs := ([(⟨(rd_T34 t309 t321).f0, (rd_T34 t309 t321).f1⟩ : S34)] : List (S34))) (inner := [.int .i64 ((rd_T34 t309 t321).f0), .int .i64 ((rd_T34 t309 t321).f1)]) (ok := fun _ => True) (okp := fun _ => True) ?hr ?hp (fun _ hk => hk) trivial (Below.refl _ _) (Nat.le_refl _) (by simp) ?_; (case hd => rfl); (case hg => rfl); (case hr => first | (go_simp; done) | (go_simp; rfl)); (case hp => exact (Reps.c2 (show Kd.M k34 _ _ _ (⟨(rd_T34 t309 t321).f0, (rd_T34 t309 t321).f1⟩ : S34) [.int .i64 ((rd_T34 t309 t321).f0), .int .i64 ((rd_T34 t309 t321).f1)] from (k34_mkM _ _ _ (⟨(rd_T34 t309 t321).f0, (rd_T34 t309 t321).f1⟩ : S34) )) (Reps.none _ _))); intro v328 w21 ho22 hb hg_ hnew_; have HS5_ := (hb.cell (World.block_lt_of_cell? _ _ (hHeld.2.2.2.2.2.1))).trans (hHeld.2.2.2.2.2.1); have HS6_ := (hb.cell (World.block_lt_of_cell? _ _ (hHeld.2.2.2.2.2.2))).trans (hHeld.2.2.2.2.2.2); clear hg_ hnew_
      (first | rw [← Ny327.out] at ho22 | (simp only [Int.reduceToNat] at ho22; rw [← Ny327.out] at ho22))
      have n0_ := Aside0.mk (Kd.R_elder' (by (with_reducible repeat (first | apply Kd.R_alloc | apply Kd.R_drewN | apply Kd.R_drew)); exact HO311.out) (Kd.R_base ho22) hb); have n1_ := Aside0.mk (Kd.R_below (by (with_reducible repeat (first | apply Kd.R_alloc | apply Kd.R_drewN | apply Kd.R_drew)); exact HO314.out) hb); have n2_ := Aside0.mk (Kd.R_below (by (with_reducible repeat (first | apply Kd.R_alloc | apply Kd.R_drewN | apply Kd.R_drew)); exact HO317.out) hb); have n3_ := Aside0.mk (Kd.S_below (by (with_reducible repeat (first | apply Kd.S_alloc | apply Kd.S_drewN | apply Kd.S_drew)); exact HO324.out) hb); have n4_ := Aside0.mk (Kd.R_lower (Kd.R_new' ho22 (Kd.R_lt (by (with_reducible repeat (first | apply Kd.R_alloc | apply Kd.R_drewN | apply Kd.R_drew)); exact HO311.out))) (below_size (ke_ HB.out))); have n5_ := Aside0.mk (blk_below (kb0_ BK320.out) hb); have n6_ := Aside0.mk (blk_below (kb0_ BK330.out) hb); have n7_ := Aside0.mk (below_step (ke_ HB.out) hb); clear HO311; clear HO314; clear HO317; clear HO324; clear BK320; clear BK330; clear HB; have HO311 := n0_; have HO314 := n1_; have HO317 := n2_; have HO324 := n3_; have HO329 := n4_; have BK320 := n5_; have BK330 := n6_; have HB := n7_; clear n0_ n1_ n2_ n3_ n4_ n5_ n6_ n7_; clear hb ho22; obtain ⟨Ao23, co23, eo23⟩ := Kd.R_slice HO329.out
      (first | subst eo23 | (injection eo23 with f1_ f2_ f3_; have f4_ := f1_.symm; have f5_ := f3_.symm; clear f1_ f2_ f3_; subst f4_; subst f5_))
      refine hK.out _ _ ⟨(blk_cell BK320.out 0).trans rfl, (blk_cell BK320.out 1).trans rfl, (blk_cell BK320.out 2).trans rfl, (blk_cell BK320.out 3).trans rfl, (blk_cell BK320.out 4).trans rfl, HS5_, HS6_⟩ (fun hHeld => ?_); clear hK K; refine norm_ (a' := ?_) ?_ ?_; rotate_left
      ·show Act.put _ (some 40) _ = _
       simp only [Act.put, qa_, qz_, qs_, i64_w, i32_w]; rfl
      refine pu1_ 10 (some 45) m3_10 rfl rfl HT_.out ?_; exact norm_ (by simp only [putAll, Act.put, qa_, qz_, qs_]) (hCont (.slice Ao23 y327.length co23, gb330) _ ⟨hHeld, (by (with_reducible repeat (first | apply Kd.R_alloc | apply Kd.R_drewN | apply Kd.R_drew)); exact Kd.R_mono HO311.out (fun _ hk => hk.2)), (by (with_reducible repeat (first | apply Kd.R_alloc | apply Kd.R_drewN | apply Kd.R_drew)); exact HO314.out), (by (with_reducible repeat (first | apply Kd.R_alloc | apply Kd.R_drewN | apply Kd.R_drew)); exact HO317.out), (by (with_reducible repeat (first | apply Kd.S_alloc | apply Kd.S_drewN | apply Kd.S_drew)); exact Kd.S_mono HO324.out (fun _ hk => ⟨hk.1.2, hk.2⟩)), (by (with_reducible repeat (first | apply Kd.R_alloc | apply Kd.R_drewN | apply Kd.R_drew)); exact Kd.R_mono HO329.out (fun _ hk => hk.2)), (kb0_ BK320.out), (kb0_ BK330.out), GW330.out, GE330.out, NB320_330.out, NB330_320.out, (ke_ HB.out)⟩)
    rintro ⟨v328, gb330⟩ w24 ⟨hS_, h0_, h1_, h2_, h3_, h4_, h5_, h6_, h7_, h8_, h9_, h10_, h11_⟩; have n0_ : Aside0 (Kd.R k34 34 w24 w.heap.size (fun k_ => some k_ ≠ (v328 : Value).ownBlock) (.slice (some ad326) t309.length co14) t309) := ⟨h0_⟩; have n1_ : Aside0 (Kd.R (Kd.int .i64) 2 w24 w.heap.size (fun k_ => some k_ ≠ (.slice Ao17 t315.length co17 : Value).ownBlock) (.slice Ao16 t312.length co16) t312) := ⟨h1_⟩; have n2_ : Aside0 (Kd.R (Kd.int .i64) 2 w24 w.heap.size (fun k_ => some k_ ≠ (.slice Ao16 t312.length co16 : Value).ownBlock) (.slice Ao17 t315.length co17) t315) := ⟨h2_⟩; have n3_ : Aside0 (Kd.S (Kd.slice 2 (Kd.int .i64)) 25 w24 w.heap.size (fun k_ => some k_ ≠ (.slice Ao16 t312.length co16 : Value).ownBlock ∧ some k_ ≠ (.slice Ao17 t315.length co17 : Value).ownBlock) v323 t322) := ⟨h3_⟩; have n4_ : Aside0 (Kd.R k34 34 w24 w.heap.size (fun k_ => some k_ ≠ (.slice (some ad326) t309.length co14 : Value).ownBlock) v328 y327) := ⟨h4_⟩; have n5_ : Aside0 (w24.heap[gb320]? = some (.cells #[.slice (some ad326) t309.length co14, .slice Ao16 t312.length co16, .slice Ao17 t315.length co17, .int .i64 t318, .int .i64 t319] 27 (0, 0))) := ⟨h5_⟩; have n6_ : Aside0 (w24.heap[gb330]? = some (.cells #[.slice none 0 0, .slice none 0 0, .slice none 0 0, .int .i64 0, .int .i64 0] 27 (0, 0))) := ⟨h6_⟩; have n7_ : Aside0 (w.heap.size ≤ gb330) := ⟨h7_⟩; have n8_ : Aside0 (w.heap.size ≤ gb330) := ⟨h8_⟩; have n9_ : Aside0 (gb320 ≠ gb330) := ⟨h9_⟩; have n10_ : Aside0 (gb330 ≠ gb320) := ⟨h10_⟩; have n11_ : Aside0 (Below w.heap.size w w24) := ⟨h11_⟩; clear HO311; clear HO314; clear HO317; clear HO324; clear BK320; clear HB; clear h0_ h1_ h2_ h3_ h4_ h5_ h6_ h7_ h8_ h9_ h10_ h11_; have HO311 := n0_; have HO314 := n1_; have HO317 := n2_; have HO324 := n3_; have HO329 := n4_; have BK320 := n5_; have BK330 := n6_; have GW330 := n7_; have GE330 := n8_; have NB320_330 := n9_; have NB330_320 := n10_; have HB := n11_; clear n0_ n1_ n2_ n3_ n4_ n5_ n6_ n7_ n8_ n9_ n10_ n11_; have hHeld : w24.cell? ⟨gb320, 0, none⟩ = some (.slice (some ad326) t309.length co14) ∧ w24.cell? ⟨gb320, 1, none⟩ = some (.slice Ao16 t312.length co16) ∧ w24.cell? ⟨gb320, 2, none⟩ = some (.slice Ao17 t315.length co17) ∧ w24.cell? ⟨gb320, 3, none⟩ = some (.int .i64 t318) ∧ w24.cell? ⟨gb320, 4, none⟩ = some (.int .i64 t319) ∧ w24.cell? (ad326.add ((t321).toNat * 2)) = some (.int .i64 ((rd_T34 t309 t321).f0)) ∧ w24.cell? ⟨(ad326.add ((t321).toNat * 2)).block, (ad326.add ((t321).toNat * 2)).off + 1, none⟩ = some (.int .i64 ((rd_T34 t309 t321).f1)) := hS_; obtain ⟨Ao25, co25, eo25⟩ := Kd.R_slice HO329.out
    (first | subst eo25 | (injection eo25 with f1_ f2_ f3_; have f4_ := f1_.symm; have f5_ := f3_.symm; clear f1_ f2_ f3_; subst f4_; subst f5_))
    refine norm_ (a' := ?_) ?_ ?_; rotate_left
    ·simp only [putAll, Act.put, qa_, qz_, qs_]; rfl
    refine one_ (i := 12) (N := none) m3_15 rfl rfl (one_of HT_.out kr_) (by decide) (fun K hK => ?_); have hs26 : w24.cell? ⟨gb330, 0, none⟩ = some (.slice none 0 0) := (blk_cell BK330.out 0).trans rfl; have hfs26 := blk_frozen BK330.out 0; have hns26_0 := NB320_330.out; have hms26_0 := NB330_320.out; have hs27 : w24.cell? ⟨gb330, 1, none⟩ = some (.slice none 0 0) := (blk_cell BK330.out 1).trans rfl; have hfs27 := blk_frozen BK330.out 1; have hns27_0 := NB320_330.out; have hms27_0 := NB330_320.out; have hs28 : w24.cell? ⟨gb330, 2, none⟩ = some (.slice none 0 0) := (blk_cell BK330.out 2).trans rfl; have hfs28 := blk_frozen BK330.out 2; have hns28_0 := NB320_330.out; have hms28_0 := NB330_320.out; have hs29 : w24.cell? ⟨gb330, 3, none⟩ = some (.int .i64 0) := (blk_cell BK330.out 3).trans rfl; have hfs29 := blk_frozen BK330.out 3; have hns29_0 := NB320_330.out; have hms29_0 := NB330_320.out; have hs30 : w24.cell? ⟨gb330, 4, none⟩ = some (.int .i64 0) := (blk_cell BK330.out 4).trans rfl; have hfs30 := blk_frozen BK330.out 4; have hns30_0 := NB320_330.out; have hms30_0 := NB330_320.out; refine skip_ (w1 := ?_) (by rfl) rfl ?_ ?_; rotate_left
    ·go_simp; rfl
    refine hK.out _ _ ⟨((cell_far (p := ⟨gb330, _, none⟩) NB320_330.out _).trans (((cell_far (p := ⟨gb330, _, none⟩) NB320_330.out _).trans (((cell_far (p := ⟨gb330, _, none⟩) NB320_330.out _).trans (((cell_far (p := ⟨gb330, _, none⟩) NB320_330.out _).trans (((cell_far (p := ⟨gb330, _, none⟩) NB320_330.out _).trans (hHeld.1)))))))))), ((cell_far (p := ⟨gb330, _, none⟩) NB320_330.out _).trans (((cell_far (p := ⟨gb330, _, none⟩) NB320_330.out _).trans (((cell_far (p := ⟨gb330, _, none⟩) NB320_330.out _).trans (((cell_far (p := ⟨gb330, _, none⟩) NB320_330.out _).trans (((cell_far (p := ⟨gb330, _, none⟩) NB320_330.out _).trans (hHeld.2.1)))))))))), ((cell_far (p := ⟨gb330, _, none⟩) NB320_330.out _).trans (((cell_far (p := ⟨gb330, _, none⟩) NB320_330.out _).trans (((cell_far (p := ⟨gb330, _, none⟩) NB320_330.out _).trans (((cell_far (p := ⟨gb330, _, none⟩) NB320_330.out _).trans (((cell_far (p := ⟨gb330, _, none⟩) NB320_330.out _).trans (hHeld.2.2.1)))))))))), ((cell_far (p := ⟨gb330, _, none⟩) NB320_330.out _).trans (((cell_far (p := ⟨gb330, _, none⟩) NB320_330.out _).trans (((cell_far (p := ⟨gb330, _, none⟩) NB320_330.out _).trans (((cell_far (p := ⟨gb330, _, none⟩) NB320_330.out _).trans (((cell_far (p := ⟨gb330, _, none⟩) NB320_330.out _).trans (hHeld.2.2.2.1)))))))))), ((cell_far (p := ⟨gb330, _, none⟩) NB320_330.out _).trans (((cell_far (p := ⟨gb330, _, none⟩) NB320_330.out _).trans (((cell_far (p := ⟨gb330, _, none⟩) NB320_330.out _).trans (((cell_far (p := ⟨gb330, _, none⟩) NB320_330.out _).trans (((cell_far (p := ⟨gb330, _, none⟩) NB320_330.out _).trans (hHeld.2.2.2.2.1)))))))))), ((cell_far (p := ⟨gb330, _, none⟩) (by first | exact Kd.own_blk (Kd.R_ne HO311.out BK330.out (by decide)) | (rw [add_block]; exact Kd.own_blk (Kd.R_ne HO311.out BK330.out (by decide))) | (show (Addr.add _ _).block ≠ _; rw [add_block]; exact Kd.own_blk (Kd.R_ne HO311.out BK330.out (by decide))) | (dsimp only; exact Kd.own_blk (Kd.R_ne HO311.out BK330.out (by decide)))) _).trans (((cell_far (p := ⟨gb330, _, none⟩) (by first | exact Kd.own_blk (Kd.R_ne HO311.out BK330.out (by decide)) | (rw [add_block]; exact Kd.own_blk (Kd.R_ne HO311.out BK330.out (by decide))) | (show (Addr.add _ _).block ≠ _; rw [add_block]; exact Kd.own_blk (Kd.R_ne HO311.out BK330.out (by decide))) | (dsimp only; exact Kd.own_blk (Kd.R_ne HO311.out BK330.out (by decide)))) _).trans (((cell_far (p := ⟨gb330, _, none⟩) (by first | exact Kd.own_blk (Kd.R_ne HO311.out BK330.out (by decide)) | (rw [add_block]; exact Kd.own_blk (Kd.R_ne HO311.out BK330.out (by decide))) | (show (Addr.add _ _).block ≠ _; rw [add_block]; exact Kd.own_blk (Kd.R_ne HO311.out BK330.out (by decide))) | (dsimp only; exact Kd.own_blk (Kd.R_ne HO311.out BK330.out (by decide)))) _).trans (((cell_far (p := ⟨gb330, _, none⟩) (by first | exact Kd.own_blk (Kd.R_ne HO311.out BK330.out (by decide)) | (rw [add_block]; exact Kd.own_blk (Kd.R_ne HO311.out BK330.out (by decide))) | (show (Addr.add _ _).block ≠ _; rw [add_block]; exact Kd.own_blk (Kd.R_ne HO311.out BK330.out (by decide))) | (dsimp only; exact Kd.own_blk (Kd.R_ne HO311.out BK330.out (by decide)))) _).trans (((cell_far (p := ⟨gb330, _, none⟩) (by first | exact Kd.own_blk (Kd.R_ne HO311.out BK330.out (by decide)) | (rw [add_block]; exact Kd.own_blk (Kd.R_ne HO311.out BK330.out (by decide))) | (show (Addr.add _ _).block ≠ _; rw [add_block]; exact Kd.own_blk (Kd.R_ne HO311.out BK330.out (by decide))) | (dsimp only; exact Kd.own_blk (Kd.R_ne HO311.out BK330.out (by decide)))) _).trans (hHeld.2.2.2.2.2.1)))))))))), ((cell_far (p := ⟨gb330, _, none⟩) (by first | exact Kd.own_blk (Kd.R_ne HO311.out BK330.out (by decide)) | (rw [add_block]; exact Kd.own_blk (Kd.R_ne HO311.out BK330.out (by decide))) | (show (Addr.add _ _).block ≠ _; rw [add_block]; exact Kd.own_blk (Kd.R_ne HO311.out BK330.out (by decide))) | (dsimp only; exact Kd.own_blk (Kd.R_ne HO311.out BK330.out (by decide)))) _).trans (((cell_far (p := ⟨gb330, _, none⟩) (by first | exact Kd.own_blk (Kd.R_ne HO311.out BK330.out (by decide)) | (rw [add_block]; exact Kd.own_blk (Kd.R_ne HO311.out BK330.out (by decide))) | (show (Addr.add _ _).block ≠ _; rw [add_block]; exact Kd.own_blk (Kd.R_ne HO311.out BK330.out (by decide))) | (dsimp only; exact Kd.own_blk (Kd.R_ne HO311.out BK330.out (by decide)))) _).trans (((cell_far (p := ⟨gb330, _, none⟩) (by first | exact Kd.own_blk (Kd.R_ne HO311.out BK330.out (by decide)) | (rw [add_block]; exact Kd.own_blk (Kd.R_ne HO311.out BK330.out (by decide))) | (show (Addr.add _ _).block ≠ _; rw [add_block]; exact Kd.own_blk (Kd.R_ne HO311.out BK330.out (by decide))) | (dsimp only; exact Kd.own_blk (Kd.R_ne HO311.out BK330.out (by decide)))) _).trans (((cell_far (p := ⟨gb330, _, none⟩) (by first | exact Kd.own_blk (Kd.R_ne HO311.out BK330.out (by decide)) | (rw [add_block]; exact Kd.own_blk (Kd.R_ne HO311.out BK330.out (by decide))) | (show (Addr.add _ _).block ≠ _; rw [add_block]; exact Kd.own_blk (Kd.R_ne HO311.out BK330.out (by decide))) | (dsimp only; exact Kd.own_blk (Kd.R_ne HO311.out BK330.out (by decide)))) _).trans (((cell_far (p := ⟨gb330, _, none⟩) (by first | exact Kd.own_blk (Kd.R_ne HO311.out BK330.out (by decide)) | (rw [add_block]; exact Kd.own_blk (Kd.R_ne HO311.out BK330.out (by decide))) | (show (Addr.add _ _).block ≠ _; rw [add_block]; exact Kd.own_blk (Kd.R_ne HO311.out BK330.out (by decide))) | (dsimp only; exact Kd.own_blk (Kd.R_ne HO311.out BK330.out (by decide)))) _).trans (hHeld.2.2.2.2.2.2))))))))))⟩ (fun hHeld => ?_); clear hK K; refine done_ (done_of HT_.out kr_) ?_; have hnb31 := NB330_320.out; have hnc31 := NB320_330.out; obtain ⟨hcz32_0, hcz32_1, hcz32_2, hcz32_3, hcz32_4, hfz32_0, hfz32_1, hfz32_2, hfz32_3, hfz32_4⟩ := cl5_ BK330.out
    go_upto_region 8 with (first | ((with_reducible refine gate_callee (f := 13) rfl ?_); refine goesL_ (some 48) rfl rfl Try.func13 kr_ rfl #[.agg #[.slice Ao25 y327.length co25, .slice Ao16 t312.length co16, .slice Ao17 t315.length co17, .int .i64 0, .int .i64 1]] rfl km_ ?_; (with_reducible refine (impl_CheapestPlan.calls k _ _ y327 _ _ t312 _ _ t315 0 1 t331 t334 t335 _ ?side1 ?side2 ?side3 ?side4 ?side5 ?side6 A10.out).mono ?_); (case side1 => refine (Kd.R_reads' (e := 34) (base := w.heap.size) (ok := fun k_ => some k_ ≠ (.slice (some ad326) t309.length co14 : Value).ownBlock) (n := y327.length) (c := co25) ?_).2.2; exact (by (with_reducible repeat (first | apply Kd.R_alloc | apply Kd.R_drewN | apply Kd.R_drew)); exact (Kd.R_mono (Kd.R_far (p := ⟨gb330, 4, none⟩) (Kd.R_far (p := ⟨gb330, 3, none⟩) (Kd.R_far (p := ⟨gb330, 2, none⟩) (Kd.R_far (p := ⟨gb330, 1, none⟩) (Kd.R_far (p := ⟨gb330, 0, none⟩) (Kd.R_types HO329.out BK330.out (by decide)) (fun _ hk => hk.2) (.slice Ao25 y327.length co25)) (fun _ hk => hk.2) (.slice Ao16 t312.length co16)) (fun _ hk => hk.2) (.slice Ao17 t315.length co17)) (fun _ hk => hk.2) (.int .i64 0)) (fun _ hk => hk.2) (.int .i64 1)) (fun _ h_ => h_.1)))); (case side2 => exact (Kd.R_reads' HO329.out).2.1); (case side3 => refine (Kd.R_reads' (e := 2) (base := w.heap.size) (ok := fun k_ => some k_ ≠ (.slice Ao17 t315.length co17 : Value).ownBlock) (n := t312.length) (c := co16) ?_).2.2; exact (by (with_reducible repeat (first | apply Kd.R_alloc | apply Kd.R_drewN | apply Kd.R_drew)); exact (Kd.R_mono (Kd.R_far (p := ⟨gb330, 4, none⟩) (Kd.R_far (p := ⟨gb330, 3, none⟩) (Kd.R_far (p := ⟨gb330, 2, none⟩) (Kd.R_far (p := ⟨gb330, 1, none⟩) (Kd.R_far (p := ⟨gb330, 0, none⟩) (Kd.R_types HO314.out BK330.out (by decide)) (fun _ hk => hk.2) (.slice Ao25 y327.length co25)) (fun _ hk => hk.2) (.slice Ao16 t312.length co16)) (fun _ hk => hk.2) (.slice Ao17 t315.length co17)) (fun _ hk => hk.2) (.int .i64 0)) (fun _ hk => hk.2) (.int .i64 1)) (fun _ h_ => h_.1)))); (case side4 => exact (Kd.R_reads' HO314.out).2.1); (case side5 => refine (Kd.R_reads' (e := 2) (base := w.heap.size) (ok := fun k_ => some k_ ≠ (.slice Ao16 t312.length co16 : Value).ownBlock) (n := t315.length) (c := co17) ?_).2.2; exact (by (with_reducible repeat (first | apply Kd.R_alloc | apply Kd.R_drewN | apply Kd.R_drew)); exact (Kd.R_mono (Kd.R_far (p := ⟨gb330, 4, none⟩) (Kd.R_far (p := ⟨gb330, 3, none⟩) (Kd.R_far (p := ⟨gb330, 2, none⟩) (Kd.R_far (p := ⟨gb330, 1, none⟩) (Kd.R_far (p := ⟨gb330, 0, none⟩) (Kd.R_types HO317.out BK330.out (by decide)) (fun _ hk => hk.2) (.slice Ao25 y327.length co25)) (fun _ hk => hk.2) (.slice Ao16 t312.length co16)) (fun _ hk => hk.2) (.slice Ao17 t315.length co17)) (fun _ hk => hk.2) (.int .i64 0)) (fun _ hk => hk.2) (.int .i64 1)) (fun _ h_ => h_.1)))); (case side6 => exact (Kd.R_reads' HO317.out).2.1); rintro e w33 ⟨v332, rfl, ho0, hb⟩; refine ⟨_, rfl, ?_⟩; have n0_ := Aside0.mk (Kd.R_below (by (with_reducible repeat (first | apply Kd.R_alloc | apply Kd.R_drewN | apply Kd.R_drew)); exact (Kd.R_mono (Kd.R_far (p := ⟨gb330, 4, none⟩) (Kd.R_far (p := ⟨gb330, 3, none⟩) (Kd.R_far (p := ⟨gb330, 2, none⟩) (Kd.R_far (p := ⟨gb330, 1, none⟩) (Kd.R_far (p := ⟨gb330, 0, none⟩) (Kd.R_types HO311.out BK330.out (by decide)) (fun _ hk => hk.2) (.slice Ao25 y327.length co25)) (fun _ hk => hk.2) (.slice Ao16 t312.length co16)) (fun _ hk => hk.2) (.slice Ao17 t315.length co17)) (fun _ hk => hk.2) (.int .i64 0)) (fun _ hk => hk.2) (.int .i64 1)) (fun _ h_ => h_.1))) hb); have n1_ := Aside0.mk (Kd.R_below (by (with_reducible repeat (first | apply Kd.R_alloc | apply Kd.R_drewN | apply Kd.R_drew)); exact (Kd.R_mono (Kd.R_far (p := ⟨gb330, 4, none⟩) (Kd.R_far (p := ⟨gb330, 3, none⟩) (Kd.R_far (p := ⟨gb330, 2, none⟩) (Kd.R_far (p := ⟨gb330, 1, none⟩) (Kd.R_far (p := ⟨gb330, 0, none⟩) (Kd.R_types HO314.out BK330.out (by decide)) (fun _ hk => hk.2) (.slice Ao25 y327.length co25)) (fun _ hk => hk.2) (.slice Ao16 t312.length co16)) (fun _ hk => hk.2) (.slice Ao17 t315.length co17)) (fun _ hk => hk.2) (.int .i64 0)) (fun _ hk => hk.2) (.int .i64 1)) (fun _ h_ => h_.1))) hb); have n2_ := Aside0.mk (Kd.R_below (by (with_reducible repeat (first | apply Kd.R_alloc | apply Kd.R_drewN | apply Kd.R_drew)); exact (Kd.R_mono (Kd.R_far (p := ⟨gb330, 4, none⟩) (Kd.R_far (p := ⟨gb330, 3, none⟩) (Kd.R_far (p := ⟨gb330, 2, none⟩) (Kd.R_far (p := ⟨gb330, 1, none⟩) (Kd.R_far (p := ⟨gb330, 0, none⟩) (Kd.R_types HO317.out BK330.out (by decide)) (fun _ hk => hk.2) (.slice Ao25 y327.length co25)) (fun _ hk => hk.2) (.slice Ao16 t312.length co16)) (fun _ hk => hk.2) (.slice Ao17 t315.length co17)) (fun _ hk => hk.2) (.int .i64 0)) (fun _ hk => hk.2) (.int .i64 1)) (fun _ h_ => h_.1))) hb); have n3_ := Aside0.mk (Kd.S_below (by (with_reducible repeat (first | apply Kd.S_alloc | apply Kd.S_drewN | apply Kd.S_drew)); exact (Kd.S_mono (Kd.S_far (p := ⟨gb330, 4, none⟩) (Kd.S_far (p := ⟨gb330, 3, none⟩) (Kd.S_far (p := ⟨gb330, 2, none⟩) (Kd.S_far (p := ⟨gb330, 1, none⟩) (Kd.S_far (p := ⟨gb330, 0, none⟩) (Kd.S_types HO324.out BK330.out (by decide)) (fun _ hk => hk.2) (.slice Ao25 y327.length co25)) (fun _ hk => hk.2) (.slice Ao16 t312.length co16)) (fun _ hk => hk.2) (.slice Ao17 t315.length co17)) (fun _ hk => hk.2) (.int .i64 0)) (fun _ hk => hk.2) (.int .i64 1)) (fun _ h_ => h_.1))) hb); have n4_ := Aside0.mk (Kd.R_below (by (with_reducible repeat (first | apply Kd.R_alloc | apply Kd.R_drewN | apply Kd.R_drew)); exact (Kd.R_mono (Kd.R_far (p := ⟨gb330, 4, none⟩) (Kd.R_far (p := ⟨gb330, 3, none⟩) (Kd.R_far (p := ⟨gb330, 2, none⟩) (Kd.R_far (p := ⟨gb330, 1, none⟩) (Kd.R_far (p := ⟨gb330, 0, none⟩) (Kd.R_types HO329.out BK330.out (by decide)) (fun _ hk => hk.2) (.slice Ao25 y327.length co25)) (fun _ hk => hk.2) (.slice Ao16 t312.length co16)) (fun _ hk => hk.2) (.slice Ao17 t315.length co17)) (fun _ hk => hk.2) (.int .i64 0)) (fun _ hk => hk.2) (.int .i64 1)) (fun _ h_ => h_.1))) hb); have n5_ := Aside0.mk (Kd.S_lower (Kd.S_new' (Kd.S_new' ho0 (Kd.R_lt (by (with_reducible repeat (first | apply Kd.R_alloc | apply Kd.R_drewN | apply Kd.R_drew)); exact (Kd.R_mono (Kd.R_far (p := ⟨gb330, 4, none⟩) (Kd.R_far (p := ⟨gb330, 3, none⟩) (Kd.R_far (p := ⟨gb330, 2, none⟩) (Kd.R_far (p := ⟨gb330, 1, none⟩) (Kd.R_far (p := ⟨gb330, 0, none⟩) (Kd.R_types HO314.out BK330.out (by decide)) (fun _ hk => hk.2) (.slice Ao25 y327.length co25)) (fun _ hk => hk.2) (.slice Ao16 t312.length co16)) (fun _ hk => hk.2) (.slice Ao17 t315.length co17)) (fun _ hk => hk.2) (.int .i64 0)) (fun _ hk => hk.2) (.int .i64 1)) (fun _ h_ => h_.1))))) (Kd.R_lt (by (with_reducible repeat (first | apply Kd.R_alloc | apply Kd.R_drewN | apply Kd.R_drew)); exact (Kd.R_mono (Kd.R_far (p := ⟨gb330, 4, none⟩) (Kd.R_far (p := ⟨gb330, 3, none⟩) (Kd.R_far (p := ⟨gb330, 2, none⟩) (Kd.R_far (p := ⟨gb330, 1, none⟩) (Kd.R_far (p := ⟨gb330, 0, none⟩) (Kd.R_types HO317.out BK330.out (by decide)) (fun _ hk => hk.2) (.slice Ao25 y327.length co25)) (fun _ hk => hk.2) (.slice Ao16 t312.length co16)) (fun _ hk => hk.2) (.slice Ao17 t315.length co17)) (fun _ hk => hk.2) (.int .i64 0)) (fun _ hk => hk.2) (.int .i64 1)) (fun _ h_ => h_.1))))) (below_size (ke_ HB.out))); have n6_ := Aside0.mk (blk_below (kb1_ BK320.out NB320_330.out) hb); have n7_ := Aside0.mk (blk_below (g := gb330) (o := .cells #[.slice Ao25 y327.length co25, .slice Ao16 t312.length co16, .slice Ao17 t315.length co17, .int .i64 0, .int .i64 1] 27 (0, 0)) (by (with_reducible repeat (first | refine blk_drewN ?_ _ | refine blk_drew ?_ | refine blk_alloc ?_ _)); refine blk_put (cs := #[.slice Ao25 y327.length co25, .slice Ao16 t312.length co16, .slice Ao17 t315.length co17, .int .i64 0, .int .i64 0]) ?_ 4 _ rfl; (with_reducible repeat (first | refine blk_drewN ?_ _ | refine blk_drew ?_ | refine blk_alloc ?_ _)); refine blk_put (cs := #[.slice Ao25 y327.length co25, .slice Ao16 t312.length co16, .slice Ao17 t315.length co17, .int .i64 0, .int .i64 0]) ?_ 3 _ rfl; (with_reducible repeat (first | refine blk_drewN ?_ _ | refine blk_drew ?_ | refine blk_alloc ?_ _)); refine blk_put (cs := #[.slice Ao25 y327.length co25, .slice Ao16 t312.length co16, .slice none 0 0, .int .i64 0, .int .i64 0]) ?_ 2 _ rfl; (with_reducible repeat (first | refine blk_drewN ?_ _ | refine blk_drew ?_ | refine blk_alloc ?_ _)); refine blk_put (cs := #[.slice Ao25 y327.length co25, .slice none 0 0, .slice none 0 0, .int .i64 0, .int .i64 0]) ?_ 1 _ rfl; (with_reducible repeat (first | refine blk_drewN ?_ _ | refine blk_drew ?_ | refine blk_alloc ?_ _)); refine blk_put (cs := #[.slice none 0 0, .slice none 0 0, .slice none 0 0, .int .i64 0, .int .i64 0]) ?_ 0 _ rfl; (with_reducible repeat (first | refine blk_drewN ?_ _ | refine blk_drew ?_ | refine blk_alloc ?_ _)); exact BK330.out) hb); have n8_ := Aside0.mk (below_step (ke_ HB.out) hb); clear HO311; clear HO314; clear HO317; clear HO324; clear HO329; clear BK320; clear BK330; clear HB; have HO311 := n0_; have HO314 := n1_; have HO317 := n2_; have HO324 := n3_; have HO329 := n4_; have HO333 := n5_; have BK320 := n6_; have BK330 := n7_; have HB := n8_; clear n0_ n1_ n2_ n3_ n4_ n5_ n6_ n7_ n8_; (try clear hb hb2 hk hi ho0)))
    (try simp only [Act.put, qa_, qz_, qs_])
    go_cut [59] (fun v59 wc => ∃ (kq : Nat) (x59_10 : Bool), v59 = .bool x59_10 ∧ Aside0 (laws_FnNeeds.j0 kq t321 t322 t325 t334 x59_10 t309 t312 t315 t318 t319 = some r) ∧ Aside0 (kq ≤ k) ∧ Aside0 (Kd.S (Kd.slice 2 (Kd.int .i64)) 25 wc w.heap.size (fun k_ => some k_ ≠ ((.slice Ao16 t312.length co16) : Value).ownBlock ∧ some k_ ≠ ((.slice Ao17 t315.length co17) : Value).ownBlock ∧ some k_ ≠ ((.slice Ao16 t312.length co16) : Value).ownBlock ∧ some k_ ≠ ((.slice Ao17 t315.length co17) : Value).ownBlock) v323 t322) ∧ Aside0 (Kd.R k34 34 wc w.heap.size (fun k_ => some k_ ≠ ((.slice Ao25 y327.length co25) : Value).ownBlock) (.slice (some ad326) t309.length co14) t309) ∧ Aside0 (Kd.R (Kd.int .i64) 2 wc w.heap.size (fun k_ => some k_ ≠ ((.slice Ao17 t315.length co17) : Value).ownBlock ∧ some k_ ≠ ((.slice Ao17 t315.length co17) : Value).ownBlock) (.slice Ao16 t312.length co16) t312) ∧ Aside0 (Kd.R (Kd.int .i64) 2 wc w.heap.size (fun k_ => some k_ ≠ ((.slice Ao16 t312.length co16) : Value).ownBlock ∧ some k_ ≠ ((.slice Ao16 t312.length co16) : Value).ownBlock) (.slice Ao17 t315.length co17) t315) ∧ Aside0 (Kd.R k34 34 wc w.heap.size (fun k_ => some k_ ≠ ((.slice (some ad326) t309.length co14) : Value).ownBlock) (.slice Ao25 y327.length co25) y327) ∧ Aside0 (Kd.R (Kd.int .i64) 2 wc w.heap.size (fun k_ => some k_ ≠ ((.slice Ao17 t315.length co17) : Value).ownBlock ∧ some k_ ≠ ((.slice Ao17 t315.length co17) : Value).ownBlock) (.slice Ao16 t312.length co16) t312) ∧ Aside0 (Kd.R (Kd.int .i64) 2 wc w.heap.size (fun k_ => some k_ ≠ ((.slice Ao16 t312.length co16) : Value).ownBlock ∧ some k_ ≠ ((.slice Ao16 t312.length co16) : Value).ownBlock) (.slice Ao17 t315.length co17) t315) ∧ Aside0 (wc.heap[gb320]? = some (.cells #[(.slice (some ad326) t309.length co14), (.slice Ao16 t312.length co16), (.slice Ao17 t315.length co17), .int .i64 t318, .int .i64 t319] 27 (0, 0))) ∧ Aside0 (wc.heap[gb330]? = some (.cells #[(.slice Ao25 y327.length co25), (.slice Ao16 t312.length co16), (.slice Ao17 t315.length co17), .int .i64 0, .int .i64 1] 27 (0, 0))) ∧ Aside0 (Below w.heap.size w wc))
    case first =>
     have H := HC11.out; clear HC11
     by_cases c34 : (t325 != t335) = true
     ·rw [if_pos c34] at H; exact absurd H (by simp)
     ·rw [if_neg c34] at H; have c34b0 : (t325 != t335) = false := by simpa using c34
      (try (have c34b1 : decide (t325 = t335) = true := by simpa using c34))
      (try (have c34b2 : (t325 == t335) = true := by simpa using c34))
      clear c34
      (first | rw [c34b0] | (simp only [i64_w, i32_w]; rw [c34b0]) | skip)
      replace H := Option.bind_eq_some_iff.mp H; obtain ⟨t336, A350, H⟩ := H; replace H : (laws_FnNeeds.j0 k t321 t322 t325 t334 (!t336) t309 t312 t315 t318 t319) = some r := H; have A35 := Aside0.mk A350; clear A350; have H' := Aside0.mk H; clear H; have hnb36 := NB330_320.out; have hnc36 := NB320_330.out; obtain ⟨hcz37_0, hcz37_1, hcz37_2, hcz37_3, hcz37_4, hfz37_0, hfz37_1, hfz37_2, hfz37_3, hfz37_4⟩ := cl5_ BK330.out
      go_wp2_with (first | (go_at_call 14; (with_reducible refine (impl_ValidHead.calls k _ _ y327 _ _ t312 _ _ t315 0 1 t336 _ ?side1 ?side2 ?side3 ?side4 ?side5 ?side6 A35.out).mono ?_); (case side1 => repeat (first | exact (Kd.R_reads' HO329.out).2.2 | (with_reducible first | refine Kd.C_alloc ?_ _ | refine Kd.C_drewN ?_ _ | refine Kd.C_drew ?_))); (case side2 => exact (Kd.R_reads' HO329.out).2.1); (case side3 => repeat (first | exact (Kd.R_reads' HO314.out).2.2 | (with_reducible first | refine Kd.C_alloc ?_ _ | refine Kd.C_drewN ?_ _ | refine Kd.C_drew ?_))); (case side4 => exact (Kd.R_reads' HO314.out).2.1); (case side5 => repeat (first | exact (Kd.R_reads' HO317.out).2.2 | (with_reducible first | refine Kd.C_alloc ?_ _ | refine Kd.C_drewN ?_ _ | refine Kd.C_drew ?_))); (case side6 => exact (Kd.R_reads' HO317.out).2.1); rintro e w38 ⟨rfl, hb⟩; have n0_ := Aside0.mk (Kd.R_below (by (with_reducible repeat (first | apply Kd.R_alloc | apply Kd.R_drewN | apply Kd.R_drew)); exact HO311.out) hb); have n1_ := Aside0.mk (Kd.R_below (by (with_reducible repeat (first | apply Kd.R_alloc | apply Kd.R_drewN | apply Kd.R_drew)); exact HO314.out) hb); have n2_ := Aside0.mk (Kd.R_below (by (with_reducible repeat (first | apply Kd.R_alloc | apply Kd.R_drewN | apply Kd.R_drew)); exact HO317.out) hb); have n3_ := Aside0.mk (Kd.S_below (by (with_reducible repeat (first | apply Kd.S_alloc | apply Kd.S_drewN | apply Kd.S_drew)); exact HO324.out) hb); have n4_ := Aside0.mk (Kd.R_below (by (with_reducible repeat (first | apply Kd.R_alloc | apply Kd.R_drewN | apply Kd.R_drew)); exact HO329.out) hb); have n5_ := Aside0.mk (Kd.S_below (by (with_reducible repeat (first | apply Kd.S_alloc | apply Kd.S_drewN | apply Kd.S_drew)); exact HO333.out) hb); have n6_ := Aside0.mk (blk_below (kb0_ BK320.out) hb); have n7_ := Aside0.mk (blk_below (kb0_ BK330.out) hb); have n8_ := Aside0.mk (below_step (ke_ HB.out) hb); clear HO311; clear HO314; clear HO317; clear HO324; clear HO329; clear HO333; clear BK320; clear BK330; clear HB; have HO311 := n0_; have HO314 := n1_; have HO317 := n2_; have HO324 := n3_; have HO329 := n4_; have HO333 := n5_; have BK320 := n6_; have BK330 := n7_; have HB := n8_; clear n0_ n1_ n2_ n3_ n4_ n5_ n6_ n7_ n8_; (try clear hb hb2 hk hi)))
      go_meet
      case rel => exact ⟨_, (!t336), ks_, H', ⟨by first | omega | exact Nat.le_refl _⟩, ⟨by (with_reducible repeat (first | apply Kd.S_alloc | apply Kd.S_drewN | apply Kd.S_drew)); exact Kd.S_mono HO324.out (fun _ hk => ⟨hk.1, ⟨hk.2, ⟨hk.1, hk.2⟩⟩⟩)⟩, ⟨by (with_reducible repeat (first | apply Kd.R_alloc | apply Kd.R_drewN | apply Kd.R_drew)); exact HO311.out⟩, ⟨by (with_reducible repeat (first | apply Kd.R_alloc | apply Kd.R_drewN | apply Kd.R_drew)); exact Kd.R_mono HO314.out (fun _ hk => ⟨hk, hk⟩)⟩, ⟨by (with_reducible repeat (first | apply Kd.R_alloc | apply Kd.R_drewN | apply Kd.R_drew)); exact Kd.R_mono HO317.out (fun _ hk => ⟨hk, hk⟩)⟩, ⟨by (with_reducible repeat (first | apply Kd.R_alloc | apply Kd.R_drewN | apply Kd.R_drew)); exact HO329.out⟩, ⟨by (with_reducible repeat (first | apply Kd.R_alloc | apply Kd.R_drewN | apply Kd.R_drew)); exact Kd.R_mono HO314.out (fun _ hk => ⟨hk, hk⟩)⟩, ⟨by (with_reducible repeat (first | apply Kd.R_alloc | apply Kd.R_drewN | apply Kd.R_drew)); exact Kd.R_mono HO317.out (fun _ hk => ⟨hk, hk⟩)⟩, ⟨kb0_ BK320.out⟩, ⟨kb0_ BK330.out⟩, ⟨ke_ HB.out⟩⟩
    case rest =>
     clear HC11; (try clear c1); (try clear c2); (try clear p2); (try clear c3); (try clear p3); (try clear q3); (try clear hx3); (try clear c4); (try clear c8); (try clear c8b0); (try clear c9); (try clear c9b0); (try clear c10); (try clear c11); (try clear c12); (try clear c13); (try clear c31); (try clear p32); (try clear q32); (try clear hx32); (try clear c34); (try clear c34b0); (try clear c34b1); (try clear c34b2); (try clear c36); (try clear hcz15_0); (try clear hcz15_1); (try clear hcz15_2); (try clear hcz15_3); (try clear hcz15_4); (try clear hcz32_0); (try clear hcz32_1); (try clear hcz32_2); (try clear hcz32_3); (try clear hcz32_4); (try clear hcz37_0); (try clear hcz37_1); (try clear hcz37_2); (try clear hcz37_3); (try clear hcz37_4); (try clear hfz15_0); (try clear hfz15_1); (try clear hfz15_2); (try clear hfz15_3); (try clear hfz15_4); (try clear hfz32_0); (try clear hfz32_1); (try clear hfz32_2); (try clear hfz32_3); (try clear hfz32_4); (try clear hfz37_0); (try clear hfz37_1); (try clear hfz37_2); (try clear hfz37_3); (try clear hfz37_4); (try clear hx326_0); (try clear hx326_1); (try clear p326); (try clear q326); obtain ⟨kq, x59_10, rfl, HA, HJ10, HO_7, HO_321000, HO_321001, HO_321002, HO_331000, HO_331001, HO_331002, BK320, BK330, HB⟩ := hcut
     cases kq with
     | zero => exact absurd HA.out (by simp [laws_FnNeeds.j0])
     | succ kj10 =>
      have H := HA.out; clear HA; simp only [laws_FnNeeds.j0] at H
      by_cases c39 : x59_10 = true
      ·subst c39; (have H1 : (none) = some r := by rw [if_pos rfl] at H; exact H); clear H; have H := H1; clear H1; exact absurd H (by simp)
      ·replace c39 := Bool.eq_false_iff.mpr c39; subst c39; (have H1 : (if t325 = true then (if t334 = (t322.length : Int) then (laws_FnNeeds.l0 kj10 t321 t322 (([] : List Int)) 0 t309 t312 t315 t318 t319) else (none)) else (some true)) = some r := by rw [if_neg (show ¬ (false = true) by decide)] at H; exact H); clear H; have H := H1; clear H1
       by_cases c40 : t325 = true
       ·subst c40; (have H1 : (if t334 = (t322.length : Int) then (laws_FnNeeds.l0 kj10 t321 t322 (([] : List Int)) 0 t309 t312 t315 t318 t319) else (none)) = some r := by rw [if_pos rfl] at H; exact H); clear H; have H := H1; clear H1
        by_cases c41 : t334 = (t322.length : Int)
        ·rw [if_pos c41] at H; have c41b0 : (t334 == (t322.length : Int)) = true := beq_iff_eq.mpr c41; have c41b1 : (t334 != (t322.length : Int)) = false := bne_eq_false_iff_eq.mpr c41; clear c41; obtain ⟨y337, hy337⟩ : ∃ y_ : List Int, y_ = (([] : List Int)) := ⟨_, rfl⟩; (replace H : (laws_FnNeeds.l0 kj10 t321 t322 y337 0 t309 t312 t315 t318 t319) = some r := by first | (rw [hy337]; with_reducible exact H) | (have H2_ := (Option.bind_some _ _).symm.trans H; rw [hy337]; with_reducible exact H2_) | (have H2_ := (Option.bind_some _ _).symm.trans H; with_reducible exact H2_) | with_reducible exact H | (rw [hy337]; exact H) | exact H); have Ny337 := Aside0.mk hy337; clear hy337; have H' := Aside0.mk H; clear H; obtain ⟨Ao42, co42, eo42⟩ := Kd.S_slice HO_7.out; subst eo42
         go_wp2_with (first | ((with_reducible refine gate_dst (N := 66) rfl ?_); (try (refine gate_guard (by rfl) ?_; dsimp only)); refine Kd.R_lit (Kd.int .i64) _ 2 ?hg (N := 66) ?hd (xs := ([] : List Int)) (inner := []) (ok := fun _ => True) (okp := fun _ => True) ?hr ?hp (fun _ hk => hk) trivial (Below.refl _ _) (Nat.le_refl _) (by simp) ?_; (case hd => rfl); (case hg => rfl); (case hr => first | (go_simp; done) | (go_simp; rfl)); (case hp => exact (Reps.none _ _)); intro v338 w43 ho44 hb hg_ hnew_; clear hg_ hnew_; (first | rw [← Ny337.out] at ho44 | (simp only [Int.reduceToNat] at ho44; rw [← Ny337.out] at ho44)); have n0_ := Aside0.mk (Kd.S_elder' (by (with_reducible repeat (first | apply Kd.S_alloc | apply Kd.S_drewN | apply Kd.S_drew)); exact HO_7.out) (Kd.R_base ho44) hb); have n1_ := Aside0.mk (Kd.R_below (by (with_reducible repeat (first | apply Kd.R_alloc | apply Kd.R_drewN | apply Kd.R_drew)); exact HO_321000.out) hb); have n2_ := Aside0.mk (Kd.R_elder' (by (with_reducible repeat (first | apply Kd.R_alloc | apply Kd.R_drewN | apply Kd.R_drew)); exact HO_321001.out) (Kd.R_base ho44) hb); have n3_ := Aside0.mk (Kd.R_elder' (by (with_reducible repeat (first | apply Kd.R_alloc | apply Kd.R_drewN | apply Kd.R_drew)); exact HO_321002.out) (Kd.R_base ho44) hb); have n4_ := Aside0.mk (Kd.R_below (by (with_reducible repeat (first | apply Kd.R_alloc | apply Kd.R_drewN | apply Kd.R_drew)); exact HO_331000.out) hb); have n5_ := Aside0.mk (Kd.R_elder' (by (with_reducible repeat (first | apply Kd.R_alloc | apply Kd.R_drewN | apply Kd.R_drew)); exact HO_331001.out) (Kd.R_base ho44) hb); have n6_ := Aside0.mk (Kd.R_elder' (by (with_reducible repeat (first | apply Kd.R_alloc | apply Kd.R_drewN | apply Kd.R_drew)); exact HO_331002.out) (Kd.R_base ho44) hb); have n7_ := Aside0.mk (Kd.R_lower (Kd.R_new' (Kd.R_new' (Kd.R_new' (Kd.R_new' ho44 (Kd.R_lt (by (with_reducible repeat (first | apply Kd.R_alloc | apply Kd.R_drewN | apply Kd.R_drew)); exact HO_321001.out))) (Kd.R_lt (by (with_reducible repeat (first | apply Kd.R_alloc | apply Kd.R_drewN | apply Kd.R_drew)); exact HO_321002.out))) (Kd.R_lt (by (with_reducible repeat (first | apply Kd.R_alloc | apply Kd.R_drewN | apply Kd.R_drew)); exact HO_331001.out))) (Kd.R_lt (by (with_reducible repeat (first | apply Kd.R_alloc | apply Kd.R_drewN | apply Kd.R_drew)); exact HO_331002.out))) (below_size (ke_ HB.out))); have n8_ := Aside0.mk (blk_below (kb0_ BK320.out) hb); have n9_ := Aside0.mk (blk_below (kb0_ BK330.out) hb); have n10_ := Aside0.mk (below_step (ke_ HB.out) hb); clear HO_7; clear HO_321000; clear HO_321001; clear HO_321002; clear HO_331000; clear HO_331001; clear HO_331002; clear BK320; clear BK330; clear HB; have HO_7 := n0_; have HO_321000 := n1_; have HO_321001 := n2_; have HO_321002 := n3_; have HO_331000 := n4_; have HO_331001 := n5_; have HO_331002 := n6_; have HO339 := n7_; have BK320 := n8_; have BK330 := n9_; have HB := n10_; clear n0_ n1_ n2_ n3_ n4_ n5_ n6_ n7_ n8_ n9_ n10_; clear hb ho44))
         go_loopg [13, 14] kj10 (fun kq v13 v14 w' => ∃ (x13_2 : List Int) (x14_2 : Int), v14 = .int .i64 x14_2 ∧ Aside0 (laws_FnNeeds.l0 kq t321 t322 x13_2 x14_2 t309 t312 t315 t318 t319 = some r) ∧ Aside0 (kq ≤ kj10) ∧ Aside0 (Kd.S (Kd.slice 2 (Kd.int .i64)) 25 w' w.heap.size (fun k_ => some k_ ≠ (v13 : Value).ownBlock ∧ some k_ ≠ ((.slice Ao16 t312.length co16) : Value).ownBlock ∧ some k_ ≠ ((.slice Ao17 t315.length co17) : Value).ownBlock ∧ some k_ ≠ ((.slice Ao16 t312.length co16) : Value).ownBlock ∧ some k_ ≠ ((.slice Ao17 t315.length co17) : Value).ownBlock) (.slice Ao42 t322.length co42) t322) ∧ Aside0 (Kd.R (Kd.int .i64) 2 w' w.heap.size (fun k_ => some k_ ≠ ((.slice Ao16 t312.length co16) : Value).ownBlock ∧ some k_ ≠ ((.slice Ao17 t315.length co17) : Value).ownBlock ∧ some k_ ≠ ((.slice Ao16 t312.length co16) : Value).ownBlock ∧ some k_ ≠ ((.slice Ao17 t315.length co17) : Value).ownBlock) v13 x13_2) ∧ Aside0 (Kd.R k34 34 w' w.heap.size (fun k_ => some k_ ≠ ((.slice Ao25 y327.length co25) : Value).ownBlock) (.slice (some ad326) t309.length co14) t309) ∧ Aside0 (Kd.R (Kd.int .i64) 2 w' w.heap.size (fun k_ => some k_ ≠ (v13 : Value).ownBlock ∧ some k_ ≠ ((.slice Ao17 t315.length co17) : Value).ownBlock ∧ some k_ ≠ ((.slice Ao17 t315.length co17) : Value).ownBlock) (.slice Ao16 t312.length co16) t312) ∧ Aside0 (Kd.R (Kd.int .i64) 2 w' w.heap.size (fun k_ => some k_ ≠ (v13 : Value).ownBlock ∧ some k_ ≠ ((.slice Ao16 t312.length co16) : Value).ownBlock ∧ some k_ ≠ ((.slice Ao16 t312.length co16) : Value).ownBlock) (.slice Ao17 t315.length co17) t315) ∧ Aside0 (Kd.R k34 34 w' w.heap.size (fun k_ => some k_ ≠ ((.slice (some ad326) t309.length co14) : Value).ownBlock) (.slice Ao25 y327.length co25) y327) ∧ Aside0 (Kd.R (Kd.int .i64) 2 w' w.heap.size (fun k_ => some k_ ≠ (v13 : Value).ownBlock ∧ some k_ ≠ ((.slice Ao17 t315.length co17) : Value).ownBlock ∧ some k_ ≠ ((.slice Ao17 t315.length co17) : Value).ownBlock) (.slice Ao16 t312.length co16) t312) ∧ Aside0 (Kd.R (Kd.int .i64) 2 w' w.heap.size (fun k_ => some k_ ≠ (v13 : Value).ownBlock ∧ some k_ ≠ ((.slice Ao16 t312.length co16) : Value).ownBlock ∧ some k_ ≠ ((.slice Ao16 t312.length co16) : Value).ownBlock) (.slice Ao17 t315.length co17) t315) ∧ Aside0 (w'.heap[gb320]? = some (.cells #[(.slice (some ad326) t309.length co14), (.slice Ao16 t312.length co16), (.slice Ao17 t315.length co17), .int .i64 t318, .int .i64 t319] 27 (0, 0))) ∧ Aside0 (w'.heap[gb330]? = some (.cells #[(.slice Ao25 y327.length co25), (.slice Ao16 t312.length co16), (.slice Ao17 t315.length co17), .int .i64 0, .int .i64 1] 27 (0, 0))) ∧ Aside0 (Below w.heap.size w w'))
         case atStart => exact ⟨(y337), (0), ks_, H', ⟨Nat.le_refl _⟩, ⟨by (with_reducible repeat (first | apply Kd.S_alloc | apply Kd.S_drewN | apply Kd.S_drew)); exact Kd.S_mono HO_7.out (fun _ hk => ⟨hk.2, ⟨hk.1.1, ⟨hk.1.2.1, ⟨hk.1.2.2.1, hk.1.2.2.2⟩⟩⟩⟩)⟩, ⟨by (with_reducible repeat (first | apply Kd.R_alloc | apply Kd.R_drewN | apply Kd.R_drew)); exact Kd.R_mono HO339.out (fun _ hk => ⟨hk.1.1.1.2, ⟨hk.1.1.2, ⟨hk.1.2, hk.2⟩⟩⟩)⟩, ⟨by (with_reducible repeat (first | apply Kd.R_alloc | apply Kd.R_drewN | apply Kd.R_drew)); exact HO_321000.out⟩, ⟨by (with_reducible repeat (first | apply Kd.R_alloc | apply Kd.R_drewN | apply Kd.R_drew)); exact Kd.R_mono HO_321001.out (fun _ hk => ⟨hk.2, ⟨hk.1.1, hk.1.2⟩⟩)⟩, ⟨by (with_reducible repeat (first | apply Kd.R_alloc | apply Kd.R_drewN | apply Kd.R_drew)); exact Kd.R_mono HO_321002.out (fun _ hk => ⟨hk.2, ⟨hk.1.1, hk.1.2⟩⟩)⟩, ⟨by (with_reducible repeat (first | apply Kd.R_alloc | apply Kd.R_drewN | apply Kd.R_drew)); exact HO_331000.out⟩, ⟨by (with_reducible repeat (first | apply Kd.R_alloc | apply Kd.R_drewN | apply Kd.R_drew)); exact Kd.R_mono HO_331001.out (fun _ hk => ⟨hk.2, ⟨hk.1.1, hk.1.2⟩⟩)⟩, ⟨by (with_reducible repeat (first | apply Kd.R_alloc | apply Kd.R_drewN | apply Kd.R_drew)); exact Kd.R_mono HO_331002.out (fun _ hk => ⟨hk.2, ⟨hk.1.1, hk.1.2⟩⟩)⟩, ⟨kb0_ BK320.out⟩, ⟨kb0_ BK330.out⟩, ⟨ke_ HB.out⟩⟩
         case round =>
          clear H'; (try clear c1); (try clear c2); (try clear p2); (try clear c3); (try clear p3); (try clear q3); (try clear hx3); (try clear c4); (try clear c8); (try clear c8b0); (try clear c9); (try clear c9b0); (try clear c10); (try clear c11); (try clear c12); (try clear c13); (try clear c31); (try clear p32); (try clear q32); (try clear hx32); (try clear c34); (try clear c34b0); (try clear c34b1); (try clear c34b2); (try clear c36); (try clear c39); (try clear c40); (try clear c41); (try clear c41b0); (try clear c41b1); (try clear hcz15_0); (try clear hcz15_1); (try clear hcz15_2); (try clear hcz15_3); (try clear hcz15_4); (try clear hcz32_0); (try clear hcz32_1); (try clear hcz32_2); (try clear hcz32_3); (try clear hcz32_4); (try clear hcz37_0); (try clear hcz37_1); (try clear hcz37_2); (try clear hcz37_3); (try clear hcz37_4); (try clear hfz15_0); (try clear hfz15_1); (try clear hfz15_2); (try clear hfz15_3); (try clear hfz15_4); (try clear hfz32_0); (try clear hfz32_1); (try clear hfz32_2); (try clear hfz32_3); (try clear hfz32_4); (try clear hfz37_0); (try clear hfz37_1); (try clear hfz37_2); (try clear hfz37_3); (try clear hfz37_4); (try clear hx326_0); (try clear hx326_1); (try clear p2); (try clear p3); (try clear p32); (try clear p326); (try clear q3); (try clear q32); (try clear q326); obtain ⟨x13_2, x14_2, rfl, HA, HK2, HO_7, HO_13, HO_321000, HO_321001, HO_321002, HO_331000, HO_331001, HO_331002, BK320, BK330, HB⟩ := hrel
          cases gk with
          | zero => exact absurd HA.out (by simp [laws_FnNeeds.l0])
          | succ k2 =>
           have H := HA.out; clear HA; simp only [laws_FnNeeds.l0] at H
           by_cases c45 : x14_2 < (t322.length : Int)
           ·rw [if_pos c45] at H; have c45b0 : decide (x14_2 < (t322.length : Int)) = true := decide_eq_true c45; clear c45; have HC46 := Aside0.mk H; clear H
            go_upto_region 18 with (fail)
            go_cut [114] (fun v114 wc => ∃ (kq : Nat) (x114_45 : Bool), v114 = .bool x114_45 ∧ Aside0 (laws_FnNeeds.j2 kq t321 t322 x13_2 x14_2 x114_45 t309 t312 t315 t318 t319 = some r) ∧ Aside0 (kq ≤ k2) ∧ Aside0 (Kd.S (Kd.slice 2 (Kd.int .i64)) 25 wc w.heap.size (fun k_ => some k_ ≠ (u13 : Value).ownBlock ∧ some k_ ≠ ((.slice Ao16 t312.length co16) : Value).ownBlock ∧ some k_ ≠ ((.slice Ao17 t315.length co17) : Value).ownBlock ∧ some k_ ≠ ((.slice Ao16 t312.length co16) : Value).ownBlock ∧ some k_ ≠ ((.slice Ao17 t315.length co17) : Value).ownBlock) (.slice Ao42 t322.length co42) t322) ∧ Aside0 (Kd.R (Kd.int .i64) 2 wc w.heap.size (fun k_ => some k_ ≠ ((.slice Ao16 t312.length co16) : Value).ownBlock ∧ some k_ ≠ ((.slice Ao17 t315.length co17) : Value).ownBlock ∧ some k_ ≠ ((.slice Ao16 t312.length co16) : Value).ownBlock ∧ some k_ ≠ ((.slice Ao17 t315.length co17) : Value).ownBlock) u13 x13_2) ∧ Aside0 (Kd.R k34 34 wc w.heap.size (fun k_ => some k_ ≠ ((.slice Ao25 y327.length co25) : Value).ownBlock) (.slice (some ad326) t309.length co14) t309) ∧ Aside0 (Kd.R (Kd.int .i64) 2 wc w.heap.size (fun k_ => some k_ ≠ (u13 : Value).ownBlock ∧ some k_ ≠ ((.slice Ao17 t315.length co17) : Value).ownBlock ∧ some k_ ≠ ((.slice Ao17 t315.length co17) : Value).ownBlock) (.slice Ao16 t312.length co16) t312) ∧ Aside0 (Kd.R (Kd.int .i64) 2 wc w.heap.size (fun k_ => some k_ ≠ (u13 : Value).ownBlock ∧ some k_ ≠ ((.slice Ao16 t312.length co16) : Value).ownBlock ∧ some k_ ≠ ((.slice Ao16 t312.length co16) : Value).ownBlock) (.slice Ao17 t315.length co17) t315) ∧ Aside0 (Kd.R k34 34 wc w.heap.size (fun k_ => some k_ ≠ ((.slice (some ad326) t309.length co14) : Value).ownBlock) (.slice Ao25 y327.length co25) y327) ∧ Aside0 (Kd.R (Kd.int .i64) 2 wc w.heap.size (fun k_ => some k_ ≠ (u13 : Value).ownBlock ∧ some k_ ≠ ((.slice Ao17 t315.length co17) : Value).ownBlock ∧ some k_ ≠ ((.slice Ao17 t315.length co17) : Value).ownBlock) (.slice Ao16 t312.length co16) t312) ∧ Aside0 (Kd.R (Kd.int .i64) 2 wc w.heap.size (fun k_ => some k_ ≠ (u13 : Value).ownBlock ∧ some k_ ≠ ((.slice Ao16 t312.length co16) : Value).ownBlock ∧ some k_ ≠ ((.slice Ao16 t312.length co16) : Value).ownBlock) (.slice Ao17 t315.length co17) t315) ∧ Aside0 (wc.heap[gb320]? = some (.cells #[(.slice (some ad326) t309.length co14), (.slice Ao16 t312.length co16), (.slice Ao17 t315.length co17), .int .i64 t318, .int .i64 t319] 27 (0, 0))) ∧ Aside0 (wc.heap[gb330]? = some (.cells #[(.slice Ao25 y327.length co25), (.slice Ao16 t312.length co16), (.slice Ao17 t315.length co17), .int .i64 0, .int .i64 1] 27 (0, 0))) ∧ Aside0 (Below w.heap.size w wc))
            case first =>
             have H := HC46.out; clear HC46
             by_cases c47 : 0 ≤ x14_2
             ·rw [if_pos c47] at H; have c47b0 : decide (0 ≤ x14_2) = true := decide_eq_true c47; clear c47
              (first | rw [c47b0] | (simp only [i64_w, i32_w]; rw [c47b0]) | skip)
              by_cases c48 : ((rd_L3 t322 x14_2).length : Int) = 2
              ·rw [if_pos c48] at H; have c48b0 : (((rd_L3 t322 x14_2).length : Int) == 2) = true := beq_iff_eq.mpr c48; have c48b1 : (((rd_L3 t322 x14_2).length : Int) != 2) = false := bne_eq_false_iff_eq.mpr c48; clear c48
               by_cases c49 : 0 < ((rd_L3 t322 x14_2).length : Int)
               ·rw [if_pos c49] at H; have c49b0 : decide (0 < ((rd_L3 t322 x14_2).length : Int)) = true := decide_eq_true c49; have c49b1 : decide (0 < (rd_L3 t322 x14_2).length) = true := decide_eq_true (by omega); clear c49
                by_cases c50 : (rd (rd_L3 t322 x14_2) 0) < 0
                ·rw [if_pos c50] at H; exact absurd H (by simp)
                ·rw [if_neg c50] at H; have c50b0 : decide ((rd (rd_L3 t322 x14_2) 0) < 0) = false := decide_eq_false c50; clear c50
                 by_cases c51 : 1 < ((rd_L3 t322 x14_2).length : Int)
                 ·rw [if_pos c51] at H; have c51b0 : decide (1 < ((rd_L3 t322 x14_2).length : Int)) = true := decide_eq_true c51; have c51b1 : decide (1 < (rd_L3 t322 x14_2).length) = true := decide_eq_true (by omega); clear c51
                  by_cases c52 : (rd (rd_L3 t322 x14_2) 0) ≥ (rd (rd_L3 t322 x14_2) 1)
                  ·rw [if_pos c52] at H; exact absurd H (by simp)
                  ·rw [if_neg c52] at H; have c52b0 : decide ((rd (rd_L3 t322 x14_2) 1) ≤ (rd (rd_L3 t322 x14_2) 0)) = false := decide_eq_false c52; clear c52; have H' := Aside0.mk H; clear H; (try go_wp2); have n0_ := Aside0.mk (Kd.S_drew HO_7.out); have n1_ := Aside0.mk (Kd.R_drew HO_13.out); have n2_ := Aside0.mk (Kd.R_drew HO_321000.out); have n3_ := Aside0.mk (Kd.R_drew HO_321001.out); have n4_ := Aside0.mk (Kd.R_drew HO_321002.out); have n5_ := Aside0.mk (Kd.R_drew HO_331000.out); have n6_ := Aside0.mk (Kd.R_drew HO_331001.out); have n7_ := Aside0.mk (Kd.R_drew HO_331002.out); have n8_ := Aside0.mk (blk_drew BK320.out); have n9_ := Aside0.mk (blk_drew BK330.out); have n10_ := Aside0.mk (below_drew1 HB.out); clear HO_7; clear HO_13; clear HO_321000; clear HO_321001; clear HO_321002; clear HO_331000; clear HO_331001; clear HO_331002; clear BK320; clear BK330; clear HB; have HO_7 := n0_; have HO_13 := n1_; have HO_321000 := n2_; have HO_321001 := n3_; have HO_321002 := n4_; have HO_331000 := n5_; have HO_331001 := n6_; have HO_331002 := n7_; have BK320 := n8_; have BK330 := n9_; have HB := n10_; clear n0_ n1_ n2_ n3_ n4_ n5_ n6_ n7_ n8_ n9_ n10_; have p340 : 0 ≤ (x14_2 : Int) := of_decide_eq_true (by assumption); have q340 : x14_2 < (t322.length : Int) := of_decide_eq_true (by assumption); obtain ⟨ad340, A340_0, c340_0, e340, hx340_0, hl340_0, hi340_0⟩ := at_L3 (Kd.S_reads' HO_7.out).2.2 x14_2 p340 q340
                   cases e340
                   obtain ⟨ce340, hce340, hMe340, hcc340⟩ := Kd.S_get HO_7.out [] x14_2 p340 (by first | exact q340 | exact of_decide_eq_true (by assumption) | (have e_ := (Kd.S_reads' HO_7.out).1; omega)); obtain ⟨ve340_0, rfl, ge340_0⟩ := hMe340; have hv340_0 := hcc340 0 _ rfl; rw [Nat.add_zero, show ((Kd.slice 2 (Kd.int .i64))).sz = 1 from rfl, Nat.mul_one] at hv340_0; replace hv340_0 := Option.some.inj (hv340_0.symm.trans hx340_0); rw [hv340_0] at ge340_0; have HL340_0 := Aside0.mk (show Kd.R (Kd.int .i64) 2 _ _ _ _ (rd_L3 t322 x14_2) from ge340_0); clear hv340_0 ge340_0; clear hcc340 hce340; have HR340_0 := Aside0.mk hi340_0; have HC340_0 := Aside0.mk hl340_0; clear hi340_0 hl340_0; replace p340 := eq_true p340; replace q340 := eq_true q340; have p341 : 0 ≤ (x14_2 : Int) := of_decide_eq_true (by assumption); have q341 : x14_2 < (t322.length : Int) := of_decide_eq_true (by assumption); obtain ⟨ad341, A341_0, c341_0, e341, hx341_0, hl341_0, hi341_0⟩ := at_L3 (Kd.S_reads' HO_7.out).2.2 x14_2 p341 q341; obtain rfl : ad340 = ad341 := (by injection e341); obtain ⟨ce341, hce341, hMe341, hcc341⟩ := Kd.S_get HO_7.out [] x14_2 p341 (by first | exact q341 | exact of_decide_eq_true (by assumption) | (have e_ := (Kd.S_reads' HO_7.out).1; omega)); obtain ⟨ve341_0, rfl, ge341_0⟩ := hMe341; have hv341_0 := hcc341 0 _ rfl; rw [Nat.add_zero, show ((Kd.slice 2 (Kd.int .i64))).sz = 1 from rfl, Nat.mul_one] at hv341_0; replace hv341_0 := Option.some.inj (hv341_0.symm.trans hx341_0); rw [hv341_0] at ge341_0; have HL341_0 := Aside0.mk (show Kd.R (Kd.int .i64) 2 _ _ _ _ (rd_L3 t322 x14_2) from ge341_0); clear hv341_0 ge341_0; clear hcc341 hce341; have HR341_0 := Aside0.mk hi341_0; have HC341_0 := Aside0.mk hl341_0; clear hi341_0 hl341_0; replace p341 := eq_true p341; replace q341 := eq_true q341; have ea_ := Option.some.inj (hx340_0.symm.trans hx341_0)
                   injection ea_ with ea_ en_ ec_
                   subst ea_; subst ec_; clear en_; have p342 : 0 ≤ (0 : Int) := (by omega); have q342 : 0 < ((rd_L3 t322 x14_2).length : Int) := of_decide_eq_true (by assumption); obtain ⟨ad342, e342, hx342_0⟩ := Kd.at_int (by repeat (first | (with_reducible exact HR341_0.out) | (with_reducible first | refine Kd.C_alloc ?_ _ | refine Kd.C_drewN ?_ _ | refine Kd.C_drew ?_) | exact HR341_0.out)) 0 p342 q342
                   cases e342
                   have qi342 : (0 < (rd_L3 t322 x14_2).length) = True := eq_true (by omega)
                   (try rw [show ((0 : Int)).toNat = 0 from rfl] at hx342_0)
                   (try rw [Addr.add_zero'] at hx342_0)
                   replace p342 := eq_true p342; replace q342 := eq_true q342; have p343 : 0 ≤ (x14_2 : Int) := of_decide_eq_true (by assumption); have q343 : x14_2 < (t322.length : Int) := of_decide_eq_true (by assumption); obtain ⟨ad343, A343_0, c343_0, e343, hx343_0, hl343_0, hi343_0⟩ := at_L3 (Kd.S_reads' HO_7.out).2.2 x14_2 p343 q343; obtain rfl : ad340 = ad343 := (by injection e343); obtain ⟨ce343, hce343, hMe343, hcc343⟩ := Kd.S_get HO_7.out [] x14_2 p343 (by first | exact q343 | exact of_decide_eq_true (by assumption) | (have e_ := (Kd.S_reads' HO_7.out).1; omega)); obtain ⟨ve343_0, rfl, ge343_0⟩ := hMe343; have hv343_0 := hcc343 0 _ rfl; rw [Nat.add_zero, show ((Kd.slice 2 (Kd.int .i64))).sz = 1 from rfl, Nat.mul_one] at hv343_0; replace hv343_0 := Option.some.inj (hv343_0.symm.trans hx343_0); rw [hv343_0] at ge343_0; have HL343_0 := Aside0.mk (show Kd.R (Kd.int .i64) 2 _ _ _ _ (rd_L3 t322 x14_2) from ge343_0); clear hv343_0 ge343_0; clear hcc343 hce343; have HR343_0 := Aside0.mk hi343_0; have HC343_0 := Aside0.mk hl343_0; clear hi343_0 hl343_0; replace p343 := eq_true p343; replace q343 := eq_true q343; have ea_ := Option.some.inj (hx340_0.symm.trans hx343_0)
                   injection ea_ with ea_ en_ ec_
                   subst ea_; subst ec_; clear en_; have p344 : 0 ≤ (0 : Int) := (by omega); have q344 : 0 < ((rd_L3 t322 x14_2).length : Int) := of_decide_eq_true (by assumption); obtain ⟨ad344, e344, hx344_0⟩ := Kd.at_int (by repeat (first | (with_reducible exact HR343_0.out) | (with_reducible first | refine Kd.C_alloc ?_ _ | refine Kd.C_drewN ?_ _ | refine Kd.C_drew ?_) | exact HR343_0.out)) 0 p344 q344
                   cases e344
                   have qi344 : (0 < (rd_L3 t322 x14_2).length) = True := eq_true (by omega)
                   (try rw [show ((0 : Int)).toNat = 0 from rfl] at hx344_0)
                   (try rw [Addr.add_zero'] at hx344_0)
                   replace p344 := eq_true p344; replace q344 := eq_true q344; have p345 : 0 ≤ (x14_2 : Int) := of_decide_eq_true (by assumption); have q345 : x14_2 < (t322.length : Int) := of_decide_eq_true (by assumption); obtain ⟨ad345, A345_0, c345_0, e345, hx345_0, hl345_0, hi345_0⟩ := at_L3 (Kd.S_reads' HO_7.out).2.2 x14_2 p345 q345; obtain rfl : ad340 = ad345 := (by injection e345); obtain ⟨ce345, hce345, hMe345, hcc345⟩ := Kd.S_get HO_7.out [] x14_2 p345 (by first | exact q345 | exact of_decide_eq_true (by assumption) | (have e_ := (Kd.S_reads' HO_7.out).1; omega)); obtain ⟨ve345_0, rfl, ge345_0⟩ := hMe345; have hv345_0 := hcc345 0 _ rfl; rw [Nat.add_zero, show ((Kd.slice 2 (Kd.int .i64))).sz = 1 from rfl, Nat.mul_one] at hv345_0; replace hv345_0 := Option.some.inj (hv345_0.symm.trans hx345_0); rw [hv345_0] at ge345_0; have HL345_0 := Aside0.mk (show Kd.R (Kd.int .i64) 2 _ _ _ _ (rd_L3 t322 x14_2) from ge345_0); clear hv345_0 ge345_0; clear hcc345 hce345; have HR345_0 := Aside0.mk hi345_0; have HC345_0 := Aside0.mk hl345_0; clear hi345_0 hl345_0; replace p345 := eq_true p345; replace q345 := eq_true q345; have ea_ := Option.some.inj (hx340_0.symm.trans hx345_0)
                   injection ea_ with ea_ en_ ec_
                   subst ea_; subst ec_; clear en_; have p346 : 0 ≤ (1 : Int) := (by omega); have q346 : 1 < ((rd_L3 t322 x14_2).length : Int) := of_decide_eq_true (by assumption); obtain ⟨ad346, e346, hx346_0⟩ := Kd.at_int (by repeat (first | (with_reducible exact HR345_0.out) | (with_reducible first | refine Kd.C_alloc ?_ _ | refine Kd.C_drewN ?_ _ | refine Kd.C_drew ?_) | exact HR345_0.out)) 1 p346 q346
                   cases e346
                   (try simp only [show (1 : Int).toNat = 1 from rfl, Nat.reduceMul, Nat.reduceEqDiff, Go.Addr.add, ↓reduceIte] at hx346_0)
                   have qi346 : (1 < (rd_L3 t322 x14_2).length) = True := eq_true (by omega)
                   (try rw [show ((1 : Int)).toNat = 1 from rfl] at hx346_0)
                   replace p346 := eq_true p346; replace q346 := eq_true q346; have p347 : 0 ≤ (x14_2 : Int) := of_decide_eq_true (by assumption); have q347 : x14_2 < (t322.length : Int) := of_decide_eq_true (by assumption); obtain ⟨ad347, A347_0, c347_0, e347, hx347_0, hl347_0, hi347_0⟩ := at_L3 (Kd.S_reads' HO_7.out).2.2 x14_2 p347 q347; obtain rfl : ad340 = ad347 := (by injection e347); obtain ⟨ce347, hce347, hMe347, hcc347⟩ := Kd.S_get HO_7.out [] x14_2 p347 (by first | exact q347 | exact of_decide_eq_true (by assumption) | (have e_ := (Kd.S_reads' HO_7.out).1; omega)); obtain ⟨ve347_0, rfl, ge347_0⟩ := hMe347; have hv347_0 := hcc347 0 _ rfl; rw [Nat.add_zero, show ((Kd.slice 2 (Kd.int .i64))).sz = 1 from rfl, Nat.mul_one] at hv347_0; replace hv347_0 := Option.some.inj (hv347_0.symm.trans hx347_0); rw [hv347_0] at ge347_0; have HL347_0 := Aside0.mk (show Kd.R (Kd.int .i64) 2 _ _ _ _ (rd_L3 t322 x14_2) from ge347_0); clear hv347_0 ge347_0; clear hcc347 hce347; have HR347_0 := Aside0.mk hi347_0; have HC347_0 := Aside0.mk hl347_0; clear hi347_0 hl347_0; replace p347 := eq_true p347; replace q347 := eq_true q347; have ea_ := Option.some.inj (hx340_0.symm.trans hx347_0)
                   injection ea_ with ea_ en_ ec_
                   subst ea_; subst ec_; clear en_; have p348 : 0 ≤ (1 : Int) := (by omega); have q348 : 1 < ((rd_L3 t322 x14_2).length : Int) := of_decide_eq_true (by assumption); obtain ⟨ad348, e348, hx348_0⟩ := Kd.at_int (by repeat (first | (with_reducible exact HR347_0.out) | (with_reducible first | refine Kd.C_alloc ?_ _ | refine Kd.C_drewN ?_ _ | refine Kd.C_drew ?_) | exact HR347_0.out)) 1 p348 q348
                   cases e348
                   (try simp only [show (1 : Int).toNat = 1 from rfl, Nat.reduceMul, Nat.reduceEqDiff, Go.Addr.add, ↓reduceIte] at hx348_0)
                   have qi348 : (1 < (rd_L3 t322 x14_2).length) = True := eq_true (by omega)
                   (try rw [show ((1 : Int)).toNat = 1 from rfl] at hx348_0)
                   replace p348 := eq_true p348; replace q348 := eq_true q348; refine start_ (n := 42) (S := fun w' => w'.cell? ⟨gb320, 0, none⟩ = some (.slice (some ad326) t309.length co14) ∧ w'.cell? ⟨gb320, 1, none⟩ = some (.slice Ao16 t312.length co16) ∧ w'.cell? ⟨gb320, 2, none⟩ = some (.slice Ao17 t315.length co17) ∧ w'.cell? ⟨gb320, 3, none⟩ = some (.int .i64 t318) ∧ w'.cell? ⟨gb320, 4, none⟩ = some (.int .i64 t319) ∧ w'.cell? (ad340.add (x14_2).toNat) = some (.slice (some ad342) (rd_L3 t322 x14_2).length c340_0) ∧ w'.cell? (ad340.add (x14_2).toNat) = some (.slice (some ad342) (rd_L3 t322 x14_2).length c340_0) ∧ w'.cell? ad342 = some (.int .i64 (rd (rd_L3 t322 x14_2) 0)) ∧ w'.cell? (ad340.add (x14_2).toNat) = some (.slice (some ad342) (rd_L3 t322 x14_2).length c340_0) ∧ w'.cell? ad342 = some (.int .i64 (rd (rd_L3 t322 x14_2) 0)) ∧ w'.cell? (ad340.add (x14_2).toNat) = some (.slice (some ad342) (rd_L3 t322 x14_2).length c340_0) ∧ w'.cell? ⟨ad342.block, ad342.off + 1, none⟩ = some (.int .i64 (rd (rd_L3 t322 x14_2) 1)) ∧ w'.cell? (ad340.add (x14_2).toNat) = some (.slice (some ad342) (rd_L3 t322 x14_2).length c340_0) ∧ w'.cell? ⟨ad342.block, ad342.off + 1, none⟩ = some (.int .i64 (rd (rd_L3 t322 x14_2) 1))) (ds := []) m3_16 kr_ rfl rfl ⟨(blk_cell BK320.out 0).trans rfl, (blk_cell BK320.out 1).trans rfl, (blk_cell BK320.out 2).trans rfl, (blk_cell BK320.out 3).trans rfl, (blk_cell BK320.out 4).trans rfl, hx340_0, hx341_0, hx342_0, hx343_0, hx344_0, hx345_0, hx346_0, hx347_0, hx348_0⟩ (fun hHeld => ?_); refine with_tabW laws_FnNeeds.tab18 laws_FnNeeds.bits18 (fun HT_ HW_ => ?_); generalize wr.drew = w53 at HO_7 HO_13 HO_321000 HO_321001 HO_321002 HO_331000 HO_331001 HO_331002 BK320 BK330 HB HL340_0 HL341_0 HL343_0 HL345_0 HL347_0 HR340_0 HR341_0 HR343_0 HR345_0 HR347_0 hx340_0 hx341_0 hx342_0 hx343_0 hx344_0 hx345_0 hx346_0 hx347_0 hx348_0 hHeld ⊢; refine pu1_ 0 (some 73) m3_17 rfl rfl HT_.out ?_; refine pu1_ 1 (some 74) m3_18 rfl rfl HT_.out ?_; refine pu1_ 2 (some 75) m3_19 rfl rfl HT_.out ?_; refine tk14_ 3 (some 76) m3_20 rfl rfl HT_.out HW_.out hHeld ?_; refine pu1_ 4 (some 77) m3_21 rfl rfl HT_.out ?_; refine pu1_ 5 (some 78) m3_22 rfl rfl HT_.out ?_; refine pu1_ 6 (some 79) m3_23 rfl rfl HT_.out ?_; refine pu1_ 7 (some 80) m3_24 rfl rfl HT_.out ?_; refine pu1_ 8 (some 81) m3_25 rfl rfl HT_.out ?_; refine pu1_ 9 (some 82) m3_26 rfl rfl HT_.out ?_; refine tk14_ 10 (some 83) m3_27 rfl rfl HT_.out HW_.out hHeld ?_; refine pu1_ 11 (some 84) m3_28 rfl rfl HT_.out ?_; refine tk14_ 12 (some 85) m3_29 rfl rfl HT_.out HW_.out hHeld ?_; refine pu1_ 13 (some 86) m3_30 rfl rfl HT_.out ?_; refine pu1_ 14 (some 87) m3_31 rfl rfl HT_.out ?_; refine pu1_ 15 (some 88) m3_32 rfl rfl HT_.out ?_; refine pu1_ 16 (some 89) m3_33 rfl rfl HT_.out ?_; refine pu1_ 17 (some 90) m3_34 rfl rfl HT_.out ?_; refine pu1_ 18 (some 91) m3_35 rfl rfl HT_.out ?_; refine pu1_ 22 (some 95) m3_36 rfl rfl HT_.out ?_; refine pu1_ 23 (some 96) m3_37 rfl rfl HT_.out ?_; refine pu1_ 24 (some 97) m3_38 rfl rfl HT_.out ?_; refine tk14_ 19 (some 92) m3_39 rfl rfl HT_.out HW_.out hHeld ?_; refine pu1_ 20 (some 93) m3_40 rfl rfl HT_.out ?_; refine tk14_ 21 (some 94) m3_41 rfl rfl HT_.out HW_.out hHeld ?_; refine tk14_ 25 (some 98) m3_42 rfl rfl HT_.out HW_.out hHeld ?_; refine pu1_ 26 (some 99) m3_43 rfl rfl HT_.out ?_; refine tk14_ 27 (some 100) m3_44 rfl rfl HT_.out HW_.out hHeld ?_; refine pu1_ 28 (some 101) m3_45 rfl rfl HT_.out ?_; refine pu1_ 29 (some 102) m3_46 rfl rfl HT_.out ?_; refine pu1_ 30 (some 103) m3_47 rfl rfl HT_.out ?_; refine pu1_ 31 (some 104) m3_48 rfl rfl HT_.out ?_; refine pu1_ 32 (some 105) m3_49 rfl rfl HT_.out ?_; refine pu1_ 33 (some 106) m3_50 rfl rfl HT_.out ?_; refine pu1_ 37 (some 110) m3_51 rfl rfl HT_.out ?_; refine tk14_ 34 (some 107) m3_52 rfl rfl HT_.out HW_.out hHeld ?_; refine pu1_ 35 (some 108) m3_53 rfl rfl HT_.out ?_; refine tk14_ 36 (some 109) m3_54 rfl rfl HT_.out HW_.out hHeld ?_; refine tk14_ 38 (some 111) m3_55 rfl rfl HT_.out HW_.out hHeld ?_; refine pu1_ 39 (some 112) m3_56 rfl rfl HT_.out ?_; refine pu1_ 40 (some 113) m3_57 rfl rfl HT_.out ?_; refine pu1_ 41 (some 114) m3_58 rfl rfl HT_.out ?_; refine done_ (done_of HT_.out kr_) ?_; try go_wp2
                   go_meet
                   case rel => exact ⟨_, (decide ((rd (rd_L3 t322 x14_2) 1) ≥ (t312.length : Int))), ks_, H', ⟨by have := HJ10.out; have := HK2.out; first | omega | exact Nat.le_refl _⟩, ⟨by (with_reducible repeat (first | apply Kd.S_alloc | apply Kd.S_drewN | apply Kd.S_drew)); exact HO_7.out⟩, ⟨by (with_reducible repeat (first | apply Kd.R_alloc | apply Kd.R_drewN | apply Kd.R_drew)); exact HO_13.out⟩, ⟨by (with_reducible repeat (first | apply Kd.R_alloc | apply Kd.R_drewN | apply Kd.R_drew)); exact HO_321000.out⟩, ⟨by (with_reducible repeat (first | apply Kd.R_alloc | apply Kd.R_drewN | apply Kd.R_drew)); exact HO_321001.out⟩, ⟨by (with_reducible repeat (first | apply Kd.R_alloc | apply Kd.R_drewN | apply Kd.R_drew)); exact HO_321002.out⟩, ⟨by (with_reducible repeat (first | apply Kd.R_alloc | apply Kd.R_drewN | apply Kd.R_drew)); exact HO_331000.out⟩, ⟨by (with_reducible repeat (first | apply Kd.R_alloc | apply Kd.R_drewN | apply Kd.R_drew)); exact HO_331001.out⟩, ⟨by (with_reducible repeat (first | apply Kd.R_alloc | apply Kd.R_drewN | apply Kd.R_drew)); exact HO_331002.out⟩, ⟨kb0_ BK320.out⟩, ⟨kb0_ BK330.out⟩, ⟨ke_ HB.out⟩⟩
                 ·rw [if_neg c51] at H; exact absurd H (by simp)
               ·rw [if_neg c49] at H; exact absurd H (by simp)
              ·rw [if_neg c48] at H; exact absurd H (by simp)
             ·rw [if_neg c47] at H; exact absurd H (by simp)
            case rest =>
             clear HC46; (try clear p2); (try clear c3); (try clear p3); (try clear q3); (try clear hx3); (try clear qi3); (try clear c4); (try clear c5); (try clear p32); (try clear q32); (try clear hx32); (try clear c34); (try clear p34); (try clear q34); (try clear hx34); (try clear qi34); (try clear c45); (try clear c45b0); (try clear c47); (try clear c47b0); (try clear c48); (try clear c48b0); (try clear c48b1); (try clear c49); (try clear c49b0); (try clear c49b1); (try clear c50); (try clear c50b0); (try clear c51); (try clear c51b0); (try clear c51b1); (try clear c52); (try clear c52b0); (try clear hfz32_4); (try clear hfz37_0); (try clear hfz37_1); (try clear hfz37_2); (try clear hfz37_3); (try clear hfz37_4); (try clear hx326_0); (try clear hx326_1); (try clear hx340_0); (try clear hx341_0); (try clear hx342_0); (try clear hx343_0); (try clear hx344_0); (try clear hx345_0); (try clear hx346_0); (try clear hx347_0); (try clear hx348_0); (try clear p2); (try clear p3); (try clear p32); (try clear p326); (try clear p340); (try clear p341); (try clear p342); (try clear p343); (try clear p344); (try clear p345); (try clear p346); (try clear p347); (try clear p348); (try clear q3); (try clear q32); (try clear q326); (try clear q340); (try clear q341); (try clear q342); (try clear q343); (try clear q344); (try clear q345); (try clear q346); (try clear q347); (try clear q348); obtain ⟨kq, x114_45, rfl, HA, HJ45, HO_7, HO_13, HO_321000, HO_321001, HO_321002, HO_331000, HO_331001, HO_331002, BK320, BK330, HB⟩ := hcut
             cases kq with
             | zero => exact absurd HA.out (by simp [laws_FnNeeds.j2])
             | succ kj45 =>
              have H := HA.out; clear HA; simp only [laws_FnNeeds.j2] at H
              by_cases c54 : x114_45 = true
              ·subst c54; (have H1 : (none) = some r := by rw [if_pos rfl] at H; exact H); clear H; have H := H1; clear H1; exact absurd H (by simp)
              ·replace c54 := Bool.eq_false_iff.mpr c54; subst c54; (have H1 : (if 0 ≤ x14_2 then (if x14_2 < (t322.length : Int) then (if 0 < ((rd_L3 t322 x14_2).length : Int) then (laws_FnNeeds.l1 kj45 t321 t322 x13_2 x14_2 0 (rd (rd_L3 t322 x14_2) 0) t309 t312 t315 t318 t319) else (none)) else (none)) else (none)) = some r := by rw [if_neg (show ¬ (false = true) by decide)] at H; exact H); clear H; have H := H1; clear H1
               by_cases c55 : 0 ≤ x14_2
               ·rw [if_pos c55] at H; have c55b0 : decide (0 ≤ x14_2) = true := decide_eq_true c55; clear c55
                by_cases c56 : x14_2 < (t322.length : Int)
                ·rw [if_pos c56] at H; have c56b0 : decide (x14_2 < (t322.length : Int)) = true := decide_eq_true c56; clear c56
                 by_cases c57 : 0 < ((rd_L3 t322 x14_2).length : Int)
                 ·rw [if_pos c57] at H; have c57b0 : decide (0 < ((rd_L3 t322 x14_2).length : Int)) = true := decide_eq_true c57; have c57b1 : decide (0 < (rd_L3 t322 x14_2).length) = true := decide_eq_true (by omega); clear c57; have H' := Aside0.mk H; clear H; have p349 : 0 ≤ (x14_2 : Int) := of_decide_eq_true (by assumption); have q349 : x14_2 < (t322.length : Int) := of_decide_eq_true (by assumption); obtain ⟨ad349, A349_0, c349_0, e349, hx349_0, hl349_0, hi349_0⟩ := at_L3 (Kd.S_reads' HO_7.out).2.2 x14_2 p349 q349
                  cases e349
                  obtain ⟨ce349, hce349, hMe349, hcc349⟩ := Kd.S_get HO_7.out [] x14_2 p349 (by first | exact q349 | exact of_decide_eq_true (by assumption) | (have e_ := (Kd.S_reads' HO_7.out).1; omega)); obtain ⟨ve349_0, rfl, ge349_0⟩ := hMe349; have hv349_0 := hcc349 0 _ rfl; rw [Nat.add_zero, show ((Kd.slice 2 (Kd.int .i64))).sz = 1 from rfl, Nat.mul_one] at hv349_0; replace hv349_0 := Option.some.inj (hv349_0.symm.trans hx349_0); rw [hv349_0] at ge349_0; have HL349_0 := Aside0.mk (show Kd.R (Kd.int .i64) 2 _ _ _ _ (rd_L3 t322 x14_2) from ge349_0); clear hv349_0 ge349_0; clear hcc349 hce349; have HR349_0 := Aside0.mk hi349_0; have HC349_0 := Aside0.mk hl349_0; clear hi349_0 hl349_0; replace p349 := eq_true p349; replace q349 := eq_true q349; have p350 : 0 ≤ (0 : Int) := (by omega); have q350 : 0 < ((rd_L3 t322 x14_2).length : Int) := of_decide_eq_true (by assumption); obtain ⟨ad350, e350, hx350_0⟩ := Kd.at_int (by repeat (first | (with_reducible exact HR349_0.out) | (with_reducible first | refine Kd.C_alloc ?_ _ | refine Kd.C_drewN ?_ _ | refine Kd.C_drew ?_) | exact HR349_0.out)) 0 p350 q350
                  cases e350
                  have qi350 : (0 < (rd_L3 t322 x14_2).length) = True := eq_true (by omega)
                  (try rw [show ((0 : Int)).toNat = 0 from rfl] at hx350_0)
                  (try rw [Addr.add_zero'] at hx350_0)
                  replace p350 := eq_true p350; replace q350 := eq_true q350
                  go_wp2
                  go_loopg [13, 15, 16] kj45 (fun kq v13 v15 v16 w' => ∃ (x13_4 : List Int) (x15_4 : Int) (x16_4 : Int), v15 = .int .i64 x15_4 ∧ v16 = .int .i64 x16_4 ∧ Aside0 (laws_FnNeeds.l1 kq t321 t322 x13_4 x14_2 x15_4 x16_4 t309 t312 t315 t318 t319 = some r) ∧ Aside0 (kq ≤ kj45) ∧ Aside0 (Kd.S (Kd.slice 2 (Kd.int .i64)) 25 w' w.heap.size (fun k_ => some k_ ≠ (v13 : Value).ownBlock ∧ some k_ ≠ ((.slice Ao16 t312.length co16) : Value).ownBlock ∧ some k_ ≠ ((.slice Ao17 t315.length co17) : Value).ownBlock ∧ some k_ ≠ ((.slice Ao16 t312.length co16) : Value).ownBlock ∧ some k_ ≠ ((.slice Ao17 t315.length co17) : Value).ownBlock) (.slice (some ad349) t322.length co42) t322) ∧ Aside0 (Kd.R (Kd.int .i64) 2 w' w.heap.size (fun k_ => some k_ ≠ ((.slice Ao16 t312.length co16) : Value).ownBlock ∧ some k_ ≠ ((.slice Ao17 t315.length co17) : Value).ownBlock ∧ some k_ ≠ ((.slice Ao16 t312.length co16) : Value).ownBlock ∧ some k_ ≠ ((.slice Ao17 t315.length co17) : Value).ownBlock) v13 x13_4) ∧ Aside0 (Kd.R k34 34 w' w.heap.size (fun k_ => some k_ ≠ ((.slice Ao25 y327.length co25) : Value).ownBlock) (.slice (some ad326) t309.length co14) t309) ∧ Aside0 (Kd.R (Kd.int .i64) 2 w' w.heap.size (fun k_ => some k_ ≠ (v13 : Value).ownBlock ∧ some k_ ≠ ((.slice Ao17 t315.length co17) : Value).ownBlock ∧ some k_ ≠ ((.slice Ao17 t315.length co17) : Value).ownBlock) (.slice Ao16 t312.length co16) t312) ∧ Aside0 (Kd.R (Kd.int .i64) 2 w' w.heap.size (fun k_ => some k_ ≠ (v13 : Value).ownBlock ∧ some k_ ≠ ((.slice Ao16 t312.length co16) : Value).ownBlock ∧ some k_ ≠ ((.slice Ao16 t312.length co16) : Value).ownBlock) (.slice Ao17 t315.length co17) t315) ∧ Aside0 (Kd.R k34 34 w' w.heap.size (fun k_ => some k_ ≠ ((.slice (some ad326) t309.length co14) : Value).ownBlock) (.slice Ao25 y327.length co25) y327) ∧ Aside0 (Kd.R (Kd.int .i64) 2 w' w.heap.size (fun k_ => some k_ ≠ (v13 : Value).ownBlock ∧ some k_ ≠ ((.slice Ao17 t315.length co17) : Value).ownBlock ∧ some k_ ≠ ((.slice Ao17 t315.length co17) : Value).ownBlock) (.slice Ao16 t312.length co16) t312) ∧ Aside0 (Kd.R (Kd.int .i64) 2 w' w.heap.size (fun k_ => some k_ ≠ (v13 : Value).ownBlock ∧ some k_ ≠ ((.slice Ao16 t312.length co16) : Value).ownBlock ∧ some k_ ≠ ((.slice Ao16 t312.length co16) : Value).ownBlock) (.slice Ao17 t315.length co17) t315) ∧ Aside0 (w'.heap[gb320]? = some (.cells #[(.slice (some ad326) t309.length co14), (.slice Ao16 t312.length co16), (.slice Ao17 t315.length co17), .int .i64 t318, .int .i64 t319] 27 (0, 0))) ∧ Aside0 (w'.heap[gb330]? = some (.cells #[(.slice Ao25 y327.length co25), (.slice Ao16 t312.length co16), (.slice Ao17 t315.length co17), .int .i64 0, .int .i64 1] 27 (0, 0))) ∧ Aside0 (Below w.heap.size w w'))
                  case atStart => exact ⟨(x13_2), (0), (rd (rd_L3 t322 x14_2) 0), ks_, ks_, H', ⟨Nat.le_refl _⟩, ⟨by (with_reducible repeat (first | apply Kd.S_alloc | apply Kd.S_drewN | apply Kd.S_drew)); exact HO_7.out⟩, ⟨by (with_reducible repeat (first | apply Kd.R_alloc | apply Kd.R_drewN | apply Kd.R_drew)); exact HO_13.out⟩, ⟨by (with_reducible repeat (first | apply Kd.R_alloc | apply Kd.R_drewN | apply Kd.R_drew)); exact HO_321000.out⟩, ⟨by (with_reducible repeat (first | apply Kd.R_alloc | apply Kd.R_drewN | apply Kd.R_drew)); exact HO_321001.out⟩, ⟨by (with_reducible repeat (first | apply Kd.R_alloc | apply Kd.R_drewN | apply Kd.R_drew)); exact HO_321002.out⟩, ⟨by (with_reducible repeat (first | apply Kd.R_alloc | apply Kd.R_drewN | apply Kd.R_drew)); exact HO_331000.out⟩, ⟨by (with_reducible repeat (first | apply Kd.R_alloc | apply Kd.R_drewN | apply Kd.R_drew)); exact HO_331001.out⟩, ⟨by (with_reducible repeat (first | apply Kd.R_alloc | apply Kd.R_drewN | apply Kd.R_drew)); exact HO_331002.out⟩, ⟨kb0_ BK320.out⟩, ⟨kb0_ BK330.out⟩, ⟨ke_ HB.out⟩⟩
                  case round =>
                   clear H'; (try clear p2); (try clear c3); (try clear p3); (try clear q3); (try clear hx3); (try clear qi3); (try clear c4); (try clear c5); (try clear p32); (try clear q32); (try clear hx32); (try clear c34); (try clear p34); (try clear q34); (try clear hx34); (try clear qi34); (try clear p35); (try clear q35); (try clear hx35); (try clear qi35); (try clear c45); (try clear c45b0); (try clear c47); (try clear c47b0); (try clear c48); (try clear c48b0); (try clear c48b1); (try clear c49); (try clear c49b0); (try clear c49b1); (try clear c50); (try clear c50b0); (try clear c51); (try clear c51b0); (try clear c51b1); (try clear c52); (try clear c52b0); (try clear c54); (try clear c55); (try clear c55b0); (try clear c56); (try clear c56b0); (try clear c57); (try clear c57b0); (try clear c57b1); (try clear hfz32_4); (try clear hfz37_0); (try clear hfz37_1); (try clear hfz37_2); (try clear hfz37_3); (try clear hfz37_4); (try clear hx326_0); (try clear hx326_1); (try clear hx340_0); (try clear hx341_0); (try clear hx342_0); (try clear hx343_0); (try clear hx344_0); (try clear hx345_0); (try clear hx346_0); (try clear hx347_0); (try clear hx348_0); (try clear hx349_0); (try clear hx350_0); (try clear p2); (try clear p3); (try clear p32); (try clear p326); (try clear p34); (try clear p340); (try clear p341); (try clear p342); (try clear p343); (try clear p344); (try clear p345); (try clear p346); (try clear p347); (try clear p348); (try clear p349); (try clear p350); (try clear q3); (try clear q32); (try clear q326); (try clear q34); (try clear q340); (try clear q341); (try clear q342); (try clear q343); (try clear q344); (try clear q345); (try clear q346); (try clear q347); (try clear q348); (try clear q349); (try clear q350); obtain ⟨x13_4, x15_4, x16_4, rfl, rfl, HA, HK4, HO_7, HO_13, HO_321000, HO_321001, HO_321002, HO_331000, HO_331001, HO_331002, BK320, BK330, HB⟩ := hrel
                   cases gk with
                   | zero => exact absurd HA.out (by simp [laws_FnNeeds.l1])
                   | succ k4 =>
                    have H := HA.out; clear HA; simp only [laws_FnNeeds.l1] at H
                    by_cases c58 : 0 ≤ x14_2
                    ·rw [if_pos c58] at H; have c58b0 : decide (0 ≤ x14_2) = true := decide_eq_true c58; clear c58
                     by_cases c59 : x14_2 < (t322.length : Int)
                     ·rw [if_pos c59] at H; have c59b0 : decide (x14_2 < (t322.length : Int)) = true := decide_eq_true c59; clear c59
                      by_cases c60 : 1 < ((rd_L3 t322 x14_2).length : Int)
                      ·rw [if_pos c60] at H; have c60b0 : decide (1 < ((rd_L3 t322 x14_2).length : Int)) = true := decide_eq_true c60; have c60b1 : decide (1 < (rd_L3 t322 x14_2).length) = true := decide_eq_true (by omega); clear c60
                       by_cases c61 : x16_4 ≤ (rd (rd_L3 t322 x14_2) 1)
                       ·rw [if_pos c61] at H; have c61b0 : decide (x16_4 ≤ (rd (rd_L3 t322 x14_2) 1)) = true := decide_eq_true c61; clear c61
                        by_cases c62 : 0 ≤ t321
                        ·rw [if_pos c62] at H; have c62b0 : decide (0 ≤ t321) = true := decide_eq_true c62; clear c62
                         by_cases c63 : t321 < (t309.length : Int)
                         ·rw [if_pos c63] at H; have c63b0 : decide (t321 < (t309.length : Int)) = true := decide_eq_true c63; clear c63
                          by_cases c64 : 0 ≤ x16_4
                          ·rw [if_pos c64] at H; have c64b0 : decide (0 ≤ x16_4) = true := decide_eq_true c64; clear c64
                           by_cases c65 : x16_4 < (t312.length : Int)
                           ·rw [if_pos c65] at H; have c65b0 : decide (x16_4 < (t312.length : Int)) = true := decide_eq_true c65; clear c65; have HC66 := Aside0.mk H; clear H; have p351 : 0 ≤ (x14_2 : Int) := of_decide_eq_true (by assumption); have q351 : x14_2 < (t322.length : Int) := of_decide_eq_true (by assumption); obtain ⟨ad351, A351_0, c351_0, e351, hx351_0, hl351_0, hi351_0⟩ := at_L3 (Kd.S_reads' HO_7.out).2.2 x14_2 p351 q351; obtain rfl : ad349 = ad351 := (by injection e351); obtain ⟨ce351, hce351, hMe351, hcc351⟩ := Kd.S_get HO_7.out [] x14_2 p351 (by first | exact q351 | exact of_decide_eq_true (by assumption) | (have e_ := (Kd.S_reads' HO_7.out).1; omega)); obtain ⟨ve351_0, rfl, ge351_0⟩ := hMe351; have hv351_0 := hcc351 0 _ rfl; rw [Nat.add_zero, show ((Kd.slice 2 (Kd.int .i64))).sz = 1 from rfl, Nat.mul_one] at hv351_0; replace hv351_0 := Option.some.inj (hv351_0.symm.trans hx351_0); rw [hv351_0] at ge351_0; have HL351_0 := Aside0.mk (show Kd.R (Kd.int .i64) 2 _ _ _ _ (rd_L3 t322 x14_2) from ge351_0); clear hv351_0 ge351_0; clear hcc351 hce351; have HR351_0 := Aside0.mk hi351_0; have HC351_0 := Aside0.mk hl351_0; clear hi351_0 hl351_0; replace p351 := eq_true p351; replace q351 := eq_true q351; have p352 : 0 ≤ (1 : Int) := (by omega); have q352 : 1 < ((rd_L3 t322 x14_2).length : Int) := of_decide_eq_true (by assumption); obtain ⟨ad352, e352, hx352_0⟩ := Kd.at_int (by repeat (first | (with_reducible exact HR351_0.out) | (with_reducible first | refine Kd.C_alloc ?_ _ | refine Kd.C_drewN ?_ _ | refine Kd.C_drew ?_) | exact HR351_0.out)) 1 p352 q352
                            cases e352
                            (try simp only [show (1 : Int).toNat = 1 from rfl, Nat.reduceMul, Nat.reduceEqDiff, Go.Addr.add, ↓reduceIte] at hx352_0)
                            have qi352 : (1 < (rd_L3 t322 x14_2).length) = True := eq_true (by omega)
                            (try rw [show ((1 : Int)).toNat = 1 from rfl] at hx352_0)
                            replace p352 := eq_true p352; replace q352 := eq_true q352; (try go_wp2); have n0_ := Aside0.mk (Kd.S_drew HO_7.out); have n1_ := Aside0.mk (Kd.R_drew HO_13.out); have n2_ := Aside0.mk (Kd.R_drew HO_321000.out); have n3_ := Aside0.mk (Kd.R_drew HO_321001.out); have n4_ := Aside0.mk (Kd.R_drew HO_321002.out); have n5_ := Aside0.mk (Kd.R_drew HO_331000.out); have n6_ := Aside0.mk (Kd.R_drew HO_331001.out); have n7_ := Aside0.mk (Kd.R_drew HO_331002.out); have n8_ := Aside0.mk (Kd.R_drew HL351_0.out); have n9_ := Aside0.mk (blk_drew BK320.out); have n10_ := Aside0.mk (blk_drew BK330.out); have n11_ := Aside0.mk (Kd.C_drew HR351_0.out); have n12_ := Aside0.mk (below_drew1 HB.out); clear HO_7; clear HO_13; clear HO_321000; clear HO_321001; clear HO_321002; clear HO_331000; clear HO_331001; clear HO_331002; clear HL351_0; clear BK320; clear BK330; clear HR351_0; clear HB; have HO_7 := n0_; have HO_13 := n1_; have HO_321000 := n2_; have HO_321001 := n3_; have HO_321002 := n4_; have HO_331000 := n5_; have HO_331001 := n6_; have HO_331002 := n7_; have HL351_0 := n8_; have BK320 := n9_; have BK330 := n10_; have HR351_0 := n11_; have HB := n12_; clear n0_ n1_ n2_ n3_ n4_ n5_ n6_ n7_ n8_ n9_ n10_ n11_ n12_; have p362 : 0 ≤ (t321 : Int) := of_decide_eq_true (by assumption); have q362 : t321 < (t309.length : Int) := of_decide_eq_true (by assumption); obtain ⟨ad362, e362, hx362_0, hx362_1⟩ := at_T34 (Kd.R_reads' HO_321000.out).2.2 t321 p362 q362; obtain rfl : ad326 = ad362 := (by injection e362); replace p362 := eq_true p362; replace q362 := eq_true q362; have p363 : 0 ≤ (x16_4 : Int) := of_decide_eq_true (by assumption); have q363 : x16_4 < (t312.length : Int) := of_decide_eq_true (by assumption); obtain ⟨ad363, e363, hx363_0⟩ := Kd.at_int (Kd.R_reads' HO_321001.out).2.2 x16_4 p363 q363
                            cases e363
                            replace p363 := eq_true p363; replace q363 := eq_true q363; refine start_ (n := 15) (S := fun w' => w'.cell? ⟨gb320, 0, none⟩ = some (.slice (some ad326) t309.length co14) ∧ w'.cell? ⟨gb320, 1, none⟩ = some (.slice (some ad363) t312.length co16) ∧ w'.cell? ⟨gb320, 2, none⟩ = some (.slice Ao17 t315.length co17) ∧ w'.cell? ⟨gb320, 3, none⟩ = some (.int .i64 t318) ∧ w'.cell? ⟨gb320, 4, none⟩ = some (.int .i64 t319) ∧ w'.cell? (ad326.add ((t321).toNat * 2)) = some (.int .i64 ((rd_T34 t309 t321).f0)) ∧ w'.cell? ⟨(ad326.add ((t321).toNat * 2)).block, (ad326.add ((t321).toNat * 2)).off + 1, none⟩ = some (.int .i64 ((rd_T34 t309 t321).f1)) ∧ w'.cell? (ad363.add (x16_4).toNat) = some (.int .i64 (rd t312 x16_4))) (ds := []) m3_59 kr_ rfl rfl ⟨(blk_cell BK320.out 0).trans rfl, (blk_cell BK320.out 1).trans rfl, (blk_cell BK320.out 2).trans rfl, (blk_cell BK320.out 3).trans rfl, (blk_cell BK320.out 4).trans rfl, hx362_0, hx362_1, hx363_0⟩ (fun hHeld => ?_); refine with_tabW laws_FnNeeds.tab24 laws_FnNeeds.bits24 (fun HT_ HW_ => ?_); generalize wr.drew = w67 at HO_7 HO_13 HO_321000 HO_321001 HO_321002 HO_331000 HO_331001 HO_331002 HL351_0 BK320 BK330 HR351_0 HB hx362_0 hx362_1 hx363_0 hHeld ⊢; refine pu1_ 0 (some 131) m3_60 rfl rfl HT_.out ?_; refine pu1_ 1 (some 132) m3_61 rfl rfl HT_.out ?_; refine pu1_ 3 (some 134) m3_62 rfl rfl HT_.out ?_; refine pu1_ 7 (some 138) m3_63 rfl rfl HT_.out ?_; refine pu1_ 9 (some 140) m3_64 rfl rfl HT_.out ?_; refine tk8_ 2 (some 133) m3_65 rfl rfl HT_.out HW_.out hHeld ?_; refine pu1_ 4 (some 135) m3_66 rfl rfl HT_.out ?_; refine pu1_ 5 (some 136) m3_67 rfl rfl HT_.out ?_; refine tk8_ 6 (some 137) m3_68 rfl rfl HT_.out HW_.out hHeld ?_; refine tk8_ 8 (some 139) m3_69 rfl rfl HT_.out HW_.out hHeld ?_; refine pu1_ 10 (some 141) m3_70 rfl rfl HT_.out ?_; refine tk8_ 11 (some 142) m3_71 rfl rfl HT_.out HW_.out hHeld ?_; refine pu1_ 12 (some 143) m3_72 rfl rfl HT_.out ?_; refine pu1_ 13 (some 144) m3_73 rfl rfl HT_.out ?_; refine pu1_ 14 (some 15) m3_74 rfl rfl HT_.out ?_; refine done_ (done_of HT_.out kr_) ?_
                            go_upto_region 25 with (fail)
                            go_cut [158] (fun v158 wc => ∃ (kq : Nat) (x158_65 : Bool), v158 = .bool x158_65 ∧ Aside0 (laws_FnNeeds.j4 kq t321 t322 x13_4 x14_2 (wrap64 (x15_4 + (wrap64 (((rd_T34 t309 t321).f0) * (rd t312 x16_4))))) x16_4 x158_65 t309 t312 t315 t318 t319 = some r) ∧ Aside0 (kq ≤ k4) ∧ Aside0 (Kd.S (Kd.slice 2 (Kd.int .i64)) 25 wc w.heap.size (fun k_ => some k_ ≠ (u13 : Value).ownBlock ∧ some k_ ≠ ((.slice (some ad363) t312.length co16) : Value).ownBlock ∧ some k_ ≠ ((.slice Ao17 t315.length co17) : Value).ownBlock ∧ some k_ ≠ ((.slice (some ad363) t312.length co16) : Value).ownBlock ∧ some k_ ≠ ((.slice Ao17 t315.length co17) : Value).ownBlock) (.slice (some ad349) t322.length co42) t322) ∧ Aside0 (Kd.R (Kd.int .i64) 2 wc w.heap.size (fun k_ => some k_ ≠ ((.slice (some ad363) t312.length co16) : Value).ownBlock ∧ some k_ ≠ ((.slice Ao17 t315.length co17) : Value).ownBlock ∧ some k_ ≠ ((.slice (some ad363) t312.length co16) : Value).ownBlock ∧ some k_ ≠ ((.slice Ao17 t315.length co17) : Value).ownBlock) u13 x13_4) ∧ Aside0 (Kd.R k34 34 wc w.heap.size (fun k_ => some k_ ≠ ((.slice Ao25 y327.length co25) : Value).ownBlock) (.slice (some ad326) t309.length co14) t309) ∧ Aside0 (Kd.R (Kd.int .i64) 2 wc w.heap.size (fun k_ => some k_ ≠ (u13 : Value).ownBlock ∧ some k_ ≠ ((.slice Ao17 t315.length co17) : Value).ownBlock ∧ some k_ ≠ ((.slice Ao17 t315.length co17) : Value).ownBlock) (.slice (some ad363) t312.length co16) t312) ∧ Aside0 (Kd.R (Kd.int .i64) 2 wc w.heap.size (fun k_ => some k_ ≠ (u13 : Value).ownBlock ∧ some k_ ≠ ((.slice (some ad363) t312.length co16) : Value).ownBlock ∧ some k_ ≠ ((.slice (some ad363) t312.length co16) : Value).ownBlock) (.slice Ao17 t315.length co17) t315) ∧ Aside0 (Kd.R k34 34 wc w.heap.size (fun k_ => some k_ ≠ ((.slice (some ad326) t309.length co14) : Value).ownBlock) (.slice Ao25 y327.length co25) y327) ∧ Aside0 (Kd.R (Kd.int .i64) 2 wc w.heap.size (fun k_ => some k_ ≠ (u13 : Value).ownBlock ∧ some k_ ≠ ((.slice Ao17 t315.length co17) : Value).ownBlock ∧ some k_ ≠ ((.slice Ao17 t315.length co17) : Value).ownBlock) (.slice (some ad363) t312.length co16) t312) ∧ Aside0 (Kd.R (Kd.int .i64) 2 wc w.heap.size (fun k_ => some k_ ≠ (u13 : Value).ownBlock ∧ some k_ ≠ ((.slice (some ad363) t312.length co16) : Value).ownBlock ∧ some k_ ≠ ((.slice (some ad363) t312.length co16) : Value).ownBlock) (.slice Ao17 t315.length co17) t315) ∧ Aside0 (wc.heap[gb320]? = some (.cells #[(.slice (some ad326) t309.length co14), (.slice (some ad363) t312.length co16), (.slice Ao17 t315.length co17), .int .i64 t318, .int .i64 t319] 27 (0, 0))) ∧ Aside0 (wc.heap[gb330]? = some (.cells #[(.slice Ao25 y327.length co25), (.slice (some ad363) t312.length co16), (.slice Ao17 t315.length co17), .int .i64 0, .int .i64 1] 27 (0, 0))) ∧ Aside0 (Kd.C (Kd.int .i64) wc (some ad352) (rd_L3 t322 x14_2).length (rd_L3 t322 x14_2)) ∧ Aside0 (Below w.heap.size w wc))
                            case first =>
                             have H := HC66.out; clear HC66
                             by_cases c68 : 0 < ((rd_L3 t322 x14_2).length : Int)
                             ·rw [if_pos c68] at H; have c68b0 : decide (0 < ((rd_L3 t322 x14_2).length : Int)) = true := decide_eq_true c68; have c68b1 : decide (0 < (rd_L3 t322 x14_2).length) = true := decide_eq_true (by omega); clear c68
                              (first | rw [c68b0] | (simp only [i64_w, i32_w]; rw [c68b0]) | skip)
                              by_cases c69 : x16_4 > (rd (rd_L3 t322 x14_2) 0)
                              ·rw [if_pos c69] at H; have c69b0 : decide ((rd (rd_L3 t322 x14_2) 0) < x16_4) = true := decide_eq_true c69; clear c69; replace H := Option.bind_eq_some_iff.mp H; obtain ⟨t366, A700, H⟩ := H; replace H : (laws_FnNeeds.j4 k4 t321 t322 x13_4 x14_2 (wrap64 (x15_4 + (wrap64 (((rd_T34 t309 t321).f0) * (rd t312 x16_4))))) x16_4 t366 t309 t312 t315 t318 t319) = some r := H; have A70 := Aside0.mk A700; clear A700; have H' := Aside0.mk H; clear H; have p364 : 0 ≤ (x14_2 : Int) := of_decide_eq_true (by assumption); have q364 : x14_2 < (t322.length : Int) := of_decide_eq_true (by assumption); obtain ⟨ad364, A364_0, c364_0, e364, hx364_0, hl364_0, hi364_0⟩ := at_L3 (Kd.S_reads' HO_7.out).2.2 x14_2 p364 q364; obtain rfl : ad349 = ad364 := (by injection e364); obtain ⟨ce364, hce364, hMe364, hcc364⟩ := Kd.S_get HO_7.out [] x14_2 p364 (by first | exact q364 | exact of_decide_eq_true (by assumption) | (have e_ := (Kd.S_reads' HO_7.out).1; omega)); obtain ⟨ve364_0, rfl, ge364_0⟩ := hMe364; have hv364_0 := hcc364 0 _ rfl; rw [Nat.add_zero, show ((Kd.slice 2 (Kd.int .i64))).sz = 1 from rfl, Nat.mul_one] at hv364_0; replace hv364_0 := Option.some.inj (hv364_0.symm.trans hx364_0); rw [hv364_0] at ge364_0; have HL364_0 := Aside0.mk (show Kd.R (Kd.int .i64) 2 _ _ _ _ (rd_L3 t322 x14_2) from ge364_0); clear hv364_0 ge364_0; clear hcc364 hce364; have HR364_0 := Aside0.mk hi364_0; have HC364_0 := Aside0.mk hl364_0; clear hi364_0 hl364_0; replace p364 := eq_true p364; replace q364 := eq_true q364; have p365 : 0 ≤ (0 : Int) := (by omega); have q365 : 0 < ((rd_L3 t322 x14_2).length : Int) := of_decide_eq_true (by assumption); obtain ⟨ad365, e365, hx365_0⟩ := Kd.at_int (by repeat (first | (with_reducible exact HR364_0.out) | (with_reducible first | refine Kd.C_alloc ?_ _ | refine Kd.C_drewN ?_ _ | refine Kd.C_drew ?_) | exact HR364_0.out)) 0 p365 q365
                               cases e365
                               have qi365 : (0 < (rd_L3 t322 x14_2).length) = True := eq_true (by omega)
                               (try rw [show ((0 : Int)).toNat = 0 from rfl] at hx365_0)
                               (try rw [Addr.add_zero'] at hx365_0)
                               replace p365 := eq_true p365; replace q365 := eq_true q365; have hnb71 := NB320_330.out; have hnc71 := NB330_320.out; obtain ⟨hcz72_0, hcz72_1, hcz72_2, hcz72_3, hcz72_4, hfz72_0, hfz72_1, hfz72_2, hfz72_3, hfz72_4⟩ := cl5_ BK320.out
                               go_wp2_with (first | (go_at_call 15; (with_reducible refine (laws_r8Has.calls k4 _ _ t315 x16_4 t366 _ ?side1 ?side2 A70.out).mono ?_); (case side1 => repeat (first | exact (Kd.R_reads' HO_321002.out).2.2 | (with_reducible first | refine Kd.C_alloc ?_ _ | refine Kd.C_drewN ?_ _ | refine Kd.C_drew ?_))); (case side2 => exact (Kd.R_reads' HO_321002.out).2.1); rintro e w' ⟨rfl, ⟨nd, rfl⟩⟩))
                               go_meet
                               case rel => exact ⟨_, (t366), ks_, H', ⟨by have := HJ10.out; have := HK2.out; have := HJ45.out; have := HK4.out; first | omega | exact Nat.le_refl _⟩, ⟨by (with_reducible repeat (first | apply Kd.S_alloc | apply Kd.S_drewN | apply Kd.S_drew)); exact HO_7.out⟩, ⟨by (with_reducible repeat (first | apply Kd.R_alloc | apply Kd.R_drewN | apply Kd.R_drew)); exact HO_13.out⟩, ⟨by (with_reducible repeat (first | apply Kd.R_alloc | apply Kd.R_drewN | apply Kd.R_drew)); exact HO_321000.out⟩, ⟨by (with_reducible repeat (first | apply Kd.R_alloc | apply Kd.R_drewN | apply Kd.R_drew)); exact HO_321001.out⟩, ⟨by (with_reducible repeat (first | apply Kd.R_alloc | apply Kd.R_drewN | apply Kd.R_drew)); exact HO_321002.out⟩, ⟨by (with_reducible repeat (first | apply Kd.R_alloc | apply Kd.R_drewN | apply Kd.R_drew)); exact HO_331000.out⟩, ⟨by (with_reducible repeat (first | apply Kd.R_alloc | apply Kd.R_drewN | apply Kd.R_drew)); exact HO_331001.out⟩, ⟨by (with_reducible repeat (first | apply Kd.R_alloc | apply Kd.R_drewN | apply Kd.R_drew)); exact HO_331002.out⟩, ⟨kb0_ BK320.out⟩, ⟨kb0_ BK330.out⟩, ⟨by repeat (first | (with_reducible exact HR351_0.out) | (with_reducible first | refine Kd.C_alloc ?_ _ | refine Kd.C_drewN ?_ _ | refine Kd.C_drew ?_) | exact HR351_0.out)⟩, ⟨ke_ HB.out⟩⟩
                              ·rw [if_neg c69] at H; have c69b0 : decide ((rd (rd_L3 t322 x14_2) 0) < x16_4) = false := decide_eq_false c69; clear c69; have H' := Aside0.mk H; clear H; have p364 : 0 ≤ (x14_2 : Int) := of_decide_eq_true (by assumption); have q364 : x14_2 < (t322.length : Int) := of_decide_eq_true (by assumption); obtain ⟨ad364, A364_0, c364_0, e364, hx364_0, hl364_0, hi364_0⟩ := at_L3 (Kd.S_reads' HO_7.out).2.2 x14_2 p364 q364; obtain rfl : ad349 = ad364 := (by injection e364); obtain ⟨ce364, hce364, hMe364, hcc364⟩ := Kd.S_get HO_7.out [] x14_2 p364 (by first | exact q364 | exact of_decide_eq_true (by assumption) | (have e_ := (Kd.S_reads' HO_7.out).1; omega)); obtain ⟨ve364_0, rfl, ge364_0⟩ := hMe364; have hv364_0 := hcc364 0 _ rfl; rw [Nat.add_zero, show ((Kd.slice 2 (Kd.int .i64))).sz = 1 from rfl, Nat.mul_one] at hv364_0; replace hv364_0 := Option.some.inj (hv364_0.symm.trans hx364_0); rw [hv364_0] at ge364_0; have HL364_0 := Aside0.mk (show Kd.R (Kd.int .i64) 2 _ _ _ _ (rd_L3 t322 x14_2) from ge364_0); clear hv364_0 ge364_0; clear hcc364 hce364; have HR364_0 := Aside0.mk hi364_0; have HC364_0 := Aside0.mk hl364_0; clear hi364_0 hl364_0; replace p364 := eq_true p364; replace q364 := eq_true q364; have p365 : 0 ≤ (0 : Int) := (by omega); have q365 : 0 < ((rd_L3 t322 x14_2).length : Int) := of_decide_eq_true (by assumption); obtain ⟨ad365, e365, hx365_0⟩ := Kd.at_int (by repeat (first | (with_reducible exact HR364_0.out) | (with_reducible first | refine Kd.C_alloc ?_ _ | refine Kd.C_drewN ?_ _ | refine Kd.C_drew ?_) | exact HR364_0.out)) 0 p365 q365
                               cases e365
                               have qi365 : (0 < (rd_L3 t322 x14_2).length) = True := eq_true (by omega)
                               (try rw [show ((0 : Int)).toNat = 0 from rfl] at hx365_0)
                               (try rw [Addr.add_zero'] at hx365_0)
                               replace p365 := eq_true p365; replace q365 := eq_true q365
                               go_wp2
                               go_meet
                               case rel => exact ⟨_, (false), ks_, H', ⟨by have := HJ10.out; have := HK2.out; have := HJ45.out; have := HK4.out; first | omega | exact Nat.le_refl _⟩, ⟨by (with_reducible repeat (first | apply Kd.S_alloc | apply Kd.S_drewN | apply Kd.S_drew)); exact HO_7.out⟩, ⟨by (with_reducible repeat (first | apply Kd.R_alloc | apply Kd.R_drewN | apply Kd.R_drew)); exact HO_13.out⟩, ⟨by (with_reducible repeat (first | apply Kd.R_alloc | apply Kd.R_drewN | apply Kd.R_drew)); exact HO_321000.out⟩, ⟨by (with_reducible repeat (first | apply Kd.R_alloc | apply Kd.R_drewN | apply Kd.R_drew)); exact HO_321001.out⟩, ⟨by (with_reducible repeat (first | apply Kd.R_alloc | apply Kd.R_drewN | apply Kd.R_drew)); exact HO_321002.out⟩, ⟨by (with_reducible repeat (first | apply Kd.R_alloc | apply Kd.R_drewN | apply Kd.R_drew)); exact HO_331000.out⟩, ⟨by (with_reducible repeat (first | apply Kd.R_alloc | apply Kd.R_drewN | apply Kd.R_drew)); exact HO_331001.out⟩, ⟨by (with_reducible repeat (first | apply Kd.R_alloc | apply Kd.R_drewN | apply Kd.R_drew)); exact HO_331002.out⟩, ⟨kb0_ BK320.out⟩, ⟨kb0_ BK330.out⟩, ⟨by repeat (first | (with_reducible exact HR351_0.out) | (with_reducible first | refine Kd.C_alloc ?_ _ | refine Kd.C_drewN ?_ _ | refine Kd.C_drew ?_) | exact HR351_0.out)⟩, ⟨ke_ HB.out⟩⟩
                             ·rw [if_neg c68] at H; exact absurd H (by simp)
                            case rest =>
                             clear HC66; (try clear p2); (try clear c3); (try clear p3); (try clear q3); (try clear hx3); (try clear qi3); (try clear c4); (try clear c5); (try clear c6); (try clear p6); (try clear c7); (try clear p32); (try clear q32); (try clear hx32); (try clear c34); (try clear p34); (try clear q34); (try clear hx34); (try clear qi34); (try clear c35); (try clear p35); (try clear q35); (try clear hx35); (try clear qi35); (try clear c36); (try clear p36); (try clear q36); (try clear hx36); (try clear qi36); (try clear c45); (try clear c45b0); (try clear c47); (try clear c47b0); (try clear c48); (try clear c48b0); (try clear c48b1); (try clear c49); (try clear c49b0); (try clear c49b1); (try clear c50); (try clear c50b0); (try clear c51); (try clear c51b0); (try clear c51b1); (try clear c52); (try clear c52b0); (try clear c54); (try clear c55); (try clear c55b0); (try clear c56); (try clear c56b0); (try clear c57); (try clear c57b0); (try clear c57b1); (try clear c58); (try clear c58b0); (try clear c59); (try clear c59b0); (try clear c60); (try clear c60b0); (try clear c60b1); (try clear c61); (try clear c61b0); (try clear c62); (try clear c62b0); (try clear c63); (try clear c63b0); (try clear c64); (try clear c64b0); (try clear p64); (try clear c65); (try clear c65b0); (try clear c68); (try clear c68b0); (try clear c68b1); (try clear c69); (try clear c69b0); (try clear c71); (try clear hcz72_0); (try clear hcz72_1); (try clear hcz72_2); (try clear hcz72_3); (try clear hcz72_4); (try clear hfz32_4); (try clear hfz37_0); (try clear hfz37_1); (try clear hfz37_2); (try clear hfz37_3); (try clear hfz37_4); (try clear hfz72_0); (try clear hfz72_1); (try clear hfz72_2); (try clear hfz72_3); (try clear hfz72_4); (try clear hx326_0); (try clear hx326_1); (try clear hx340_0); (try clear hx341_0); (try clear hx342_0); (try clear hx343_0); (try clear hx344_0); (try clear hx345_0); (try clear hx346_0); (try clear hx347_0); (try clear hx348_0); (try clear hx349_0); (try clear hx350_0); (try clear hx351_0); (try clear hx352_0); (try clear hx362_0); (try clear hx362_1); (try clear hx363_0); (try clear hx364_0); (try clear hx365_0); (try clear p2); (try clear p3); (try clear p32); (try clear p326); (try clear p34); (try clear p340); (try clear p341); (try clear p342); (try clear p343); (try clear p344); (try clear p345); (try clear p346); (try clear p347); (try clear p348); (try clear p349); (try clear p35); (try clear p350); (try clear p351); (try clear p352); (try clear p362); (try clear p363); (try clear p364); (try clear p365); (try clear q3); (try clear q32); (try clear q326); (try clear q34); (try clear q340); (try clear q341); (try clear q342); (try clear q343); (try clear q344); (try clear q345); (try clear q346); (try clear q347); (try clear q348); (try clear q349); (try clear q35); (try clear q350); (try clear q351); (try clear q352); (try clear q362); (try clear q363); (try clear q364); (try clear q365); obtain ⟨kq, x158_65, rfl, HA, HJ65, HO_7, HO_13, HO_321000, HO_321001, HO_321002, HO_331000, HO_331001, HO_331002, BK320, BK330, HR351_0, HB⟩ := hcut
                             cases kq with
                             | zero => exact absurd HA.out (by simp [laws_FnNeeds.j4])
                             | succ kj65 =>
                              have H := HA.out; clear HA; simp only [laws_FnNeeds.j4] at H
                              by_cases c73 : x158_65 = true
                              ·subst c73; (have H1 : ((laws_r8Has.f kj65 x13_4 x16_4).bind fun t367 => (if t367 = true then (none) else (if x13_4.length < 17592186044416 then (laws_FnNeeds.l1 kj65 t321 t322 (x13_4 ++ [x16_4]) x14_2 (wrap64 (x15_4 + (wrap64 (((rd_T34 t309 t321).f0) * (rd t312 x16_4))))) (wrap64 (x16_4 + 1)) t309 t312 t315 t318 t319) else (none)))) = some r := by rw [if_pos rfl] at H; exact H); clear H; have H := H1; clear H1; replace H := Option.bind_eq_some_iff.mp H; obtain ⟨t367, A740, H⟩ := H; replace H : (if t367 = true then (none) else (if x13_4.length < 17592186044416 then (laws_FnNeeds.l1 kj65 t321 t322 (x13_4 ++ [x16_4]) x14_2 (wrap64 (x15_4 + (wrap64 (((rd_T34 t309 t321).f0) * (rd t312 x16_4))))) (wrap64 (x16_4 + 1)) t309 t312 t315 t318 t319) else (none))) = some r := H; have A74 := Aside0.mk A740; clear A740
                               by_cases c75 : t367 = true
                               ·subst c75; (have H1 : (none) = some r := by rw [if_pos rfl] at H; exact H); clear H; have H := H1; clear H1; exact absurd H (by simp)
                               ·replace c75 := Bool.eq_false_iff.mpr c75; subst c75; (have H1 : (if x13_4.length < 17592186044416 then (laws_FnNeeds.l1 kj65 t321 t322 (x13_4 ++ [x16_4]) x14_2 (wrap64 (x15_4 + (wrap64 (((rd_T34 t309 t321).f0) * (rd t312 x16_4))))) (wrap64 (x16_4 + 1)) t309 t312 t315 t318 t319) else (none)) = some r := by rw [if_neg (show ¬ (false = true) by decide)] at H; exact H); clear H; have H := H1; clear H1
                                by_cases c76 : x13_4.length < 17592186044416
                                ·rw [if_pos c76] at H; have LMc76 := Aside0.mk c76; clear c76; obtain ⟨y368, hy368⟩ : ∃ y_ : List Int, y_ = (x13_4 ++ [x16_4]) := ⟨_, rfl⟩; (replace H : (laws_FnNeeds.l1 kj65 t321 t322 y368 x14_2 (wrap64 (x15_4 + (wrap64 (((rd_T34 t309 t321).f0) * (rd t312 x16_4))))) (wrap64 (x16_4 + 1)) t309 t312 t315 t318 t319) = some r := by first | (rw [hy368]; with_reducible exact H) | (have H2_ := (Option.bind_some _ _).symm.trans H; rw [hy368]; with_reducible exact H2_) | (have H2_ := (Option.bind_some _ _).symm.trans H; with_reducible exact H2_) | with_reducible exact H | (rw [hy368]; exact H) | exact H); have Ny368 := Aside0.mk hy368; clear hy368; have H' := Aside0.mk H; clear H; obtain ⟨Ao77, co77, eo77⟩ := Kd.R_slice HO_13.out; subst eo77
                                 go_wp2_with (first | ((with_reducible refine gate_callee (f := 15) rfl ?_); refine goesL_ (some 161) rfl rfl Try.func15 kr_ rfl #[.slice Ao77 x13_4.length co77, .int .i64 x16_4] rfl km_ ?_; (with_reducible refine (laws_r8Has.calls kj65 _ _ x13_4 x16_4 false _ ?side1 ?side2 A74.out).mono ?_); (case side1 => repeat (first | exact (Kd.R_reads' HO_13.out).2.2 | (with_reducible first | refine Kd.C_alloc ?_ _ | refine Kd.C_drewN ?_ _ | refine Kd.C_drew ?_))); (case side2 => exact (Kd.R_reads' HO_13.out).2.1); rintro e w' ⟨rfl, ⟨nd, rfl⟩⟩; refine ⟨_, rfl, ?_⟩) | ((with_reducible refine gate_builtin (b := .append) (xs := #[.tmp 162, .tmp 164]) rfl ?_); (try (refine gate_guard (by rfl) ?_; dsimp only)); at_builtin; refine Kd.R_append (Kd.int .i64) (w0 := w) w.heap.size rfl (.tmp 162) (.tmp 164) 25 2 (.int .i64 0) 8 rfl Try.underlying25 info2 rfl (by decide) (by omega) (.slice Ao77 x13_4.length co77) x13_4 x16_4 [.int .i64 x16_4] (fun k_ => some k_ ≠ (.slice (some ad363) t312.length co16 : Value).ownBlock ∧ some k_ ≠ (.slice Ao17 t315.length co17 : Value).ownBlock ∧ some k_ ≠ (.slice (some ad363) t312.length co16 : Value).ownBlock ∧ some k_ ≠ (.slice Ao17 t315.length co17 : Value).ownBlock) (fun _ => False) rfl rfl ?aP (fun _ hk => hk.elim) ?aF ?aO ?aB ?aS ?aL ?_; (case aP => exact rfl); (case aB => exact (ke_ HB.out)); (case aF => exact (fun k_ hk => ⟨Kd.fresh' (Kd.R_lt (by (with_reducible repeat (first | apply Kd.R_alloc | apply Kd.R_drewN | apply Kd.R_drew)); exact HO_321001.out)) k_ hk, Kd.fresh' (Kd.R_lt (by (with_reducible repeat (first | apply Kd.R_alloc | apply Kd.R_drewN | apply Kd.R_drew)); exact HO_321002.out)) k_ hk, Kd.fresh' (Kd.R_lt (by (with_reducible repeat (first | apply Kd.R_alloc | apply Kd.R_drewN | apply Kd.R_drew)); exact HO_331001.out)) k_ hk, Kd.fresh' (Kd.R_lt (by (with_reducible repeat (first | apply Kd.R_alloc | apply Kd.R_drewN | apply Kd.R_drew)); exact HO_331002.out)) k_ hk⟩)); (case aO => exact (by (with_reducible repeat (first | apply Kd.R_alloc | apply Kd.R_drewN | apply Kd.R_drew)); exact HO_13.out)); (case aS => exact (below_size (ke_ HB.out))); (case aL => have := LMc76.out; omega); intro v369 w78 ho hb hg hat; rw [← Ny368.out] at ho; have n0_ := Aside0.mk (Kd.S_after (ok := (fun k_ => some k_ ≠ (.slice (some ad363) t312.length co16 : Value).ownBlock ∧ some k_ ≠ (.slice Ao17 t315.length co17 : Value).ownBlock ∧ some k_ ≠ (.slice (some ad363) t312.length co16 : Value).ownBlock ∧ some k_ ≠ (.slice Ao17 t315.length co17 : Value).ownBlock)) (by (with_reducible repeat (first | apply Kd.S_alloc | apply Kd.S_drewN | apply Kd.S_drew)); exact Kd.S_mono HO_7.out (fun _ hk => ⟨⟨hk.2.1, ⟨hk.2.2.1, ⟨hk.2.2.2.1, hk.2.2.2.2⟩⟩⟩, hk.1⟩)) hg hat); have n1_ := Aside0.mk (Kd.R_over' (by (with_reducible repeat (first | apply Kd.R_alloc | apply Kd.R_drewN | apply Kd.R_drew)); exact HO_321000.out) (Kd.R_typed (by (with_reducible repeat (first | apply Kd.R_alloc | apply Kd.R_drewN | apply Kd.R_drew)); exact HO_13.out)) (by decide) hg); have n2_ := Aside0.mk (Kd.R_after (ok := (fun k_ => some k_ ≠ (.slice Ao17 t315.length co17 : Value).ownBlock ∧ some k_ ≠ (.slice Ao17 t315.length co17 : Value).ownBlock)) (by (with_reducible repeat (first | apply Kd.R_alloc | apply Kd.R_drewN | apply Kd.R_drew)); exact Kd.R_mono HO_321001.out (fun _ hk => ⟨⟨hk.2.1, hk.2.2⟩, hk.1⟩)) hg hat); have n3_ := Aside0.mk (Kd.R_after (ok := (fun k_ => some k_ ≠ (.slice (some ad363) t312.length co16 : Value).ownBlock ∧ some k_ ≠ (.slice (some ad363) t312.length co16 : Value).ownBlock)) (by (with_reducible repeat (first | apply Kd.R_alloc | apply Kd.R_drewN | apply Kd.R_drew)); exact Kd.R_mono HO_321002.out (fun _ hk => ⟨⟨hk.2.1, hk.2.2⟩, hk.1⟩)) hg hat); have n4_ := Aside0.mk (Kd.R_over' (by (with_reducible repeat (first | apply Kd.R_alloc | apply Kd.R_drewN | apply Kd.R_drew)); exact HO_331000.out) (Kd.R_typed (by (with_reducible repeat (first | apply Kd.R_alloc | apply Kd.R_drewN | apply Kd.R_drew)); exact HO_13.out)) (by decide) hg); have n5_ := Aside0.mk (Kd.R_after (ok := (fun k_ => some k_ ≠ (.slice Ao17 t315.length co17 : Value).ownBlock ∧ some k_ ≠ (.slice Ao17 t315.length co17 : Value).ownBlock)) (by (with_reducible repeat (first | apply Kd.R_alloc | apply Kd.R_drewN | apply Kd.R_drew)); exact Kd.R_mono HO_331001.out (fun _ hk => ⟨⟨hk.2.1, hk.2.2⟩, hk.1⟩)) hg hat); have n6_ := Aside0.mk (Kd.R_after (ok := (fun k_ => some k_ ≠ (.slice (some ad363) t312.length co16 : Value).ownBlock ∧ some k_ ≠ (.slice (some ad363) t312.length co16 : Value).ownBlock)) (by (with_reducible repeat (first | apply Kd.R_alloc | apply Kd.R_drewN | apply Kd.R_drew)); exact Kd.R_mono HO_331002.out (fun _ hk => ⟨⟨hk.2.1, hk.2.2⟩, hk.1⟩)) hg hat); have n7_ := Aside0.mk (blk_grown (g := gb320) (o := .cells #[.slice (some ad326) t309.length co14, .slice (some ad363) t312.length co16, .slice Ao17 t315.length co17, .int .i64 t318, .int .i64 t319] 27 (0, 0)) (kb0_ BK320.out) hg (Kd.R_ne HO_13.out BK320.out (by decide))); have n8_ := Aside0.mk (blk_grown (g := gb330) (o := .cells #[.slice Ao25 y327.length co25, .slice (some ad363) t312.length co16, .slice Ao17 t315.length co17, .int .i64 0, .int .i64 1] 27 (0, 0)) (kb0_ BK330.out) hg (Kd.R_ne HO_13.out BK330.out (by decide))); have n9_ := Aside0.mk (hb); have n10_ := Aside0.mk (ho); clear HO_7; clear HO_321000; clear HO_321001; clear HO_321002; clear HO_331000; clear HO_331001; clear HO_331002; clear BK320; clear BK330; clear HB; clear HO_13; have HO_7 := n0_; have HO_321000 := n1_; have HO_321001 := n2_; have HO_321002 := n3_; have HO_331000 := n4_; have HO_331001 := n5_; have HO_331002 := n6_; have BK320 := n7_; have BK330 := n8_; have HB := n9_; have HO370 := n10_; clear n0_ n1_ n2_ n3_ n4_ n5_ n6_ n7_ n8_ n9_ n10_; clear ho hb hg hat))
                                 go_roundg kj65
                                 case measure => have := HJ10.out; have := HK2.out; have := HJ45.out; have := HK4.out; have := HJ65.out; omega
                                 case rel => exact ⟨(y368), ((wrap64 (x15_4 + (wrap64 (((rd_T34 t309 t321).f0) * (rd t312 x16_4)))))), (wrap64 (x16_4 + 1)), ks_, ks_, H', ⟨by have := HJ10.out; have := HK2.out; have := HJ45.out; have := HK4.out; have := HJ65.out; omega⟩, ⟨by (with_reducible repeat (first | apply Kd.S_alloc | apply Kd.S_drewN | apply Kd.S_drew)); exact Kd.S_mono HO_7.out (fun _ hk => ⟨hk.2, ⟨hk.1.1, ⟨hk.1.2.1, ⟨hk.1.2.2.1, hk.1.2.2.2⟩⟩⟩⟩)⟩, ⟨by (with_reducible repeat (first | apply Kd.R_alloc | apply Kd.R_drewN | apply Kd.R_drew)); exact HO370.out⟩, ⟨by (with_reducible repeat (first | apply Kd.R_alloc | apply Kd.R_drewN | apply Kd.R_drew)); exact HO_321000.out⟩, ⟨by (with_reducible repeat (first | apply Kd.R_alloc | apply Kd.R_drewN | apply Kd.R_drew)); exact Kd.R_mono HO_321001.out (fun _ hk => ⟨hk.2, ⟨hk.1.1, hk.1.2⟩⟩)⟩, ⟨by (with_reducible repeat (first | apply Kd.R_alloc | apply Kd.R_drewN | apply Kd.R_drew)); exact Kd.R_mono HO_321002.out (fun _ hk => ⟨hk.2, ⟨hk.1.1, hk.1.2⟩⟩)⟩, ⟨by (with_reducible repeat (first | apply Kd.R_alloc | apply Kd.R_drewN | apply Kd.R_drew)); exact HO_331000.out⟩, ⟨by (with_reducible repeat (first | apply Kd.R_alloc | apply Kd.R_drewN | apply Kd.R_drew)); exact Kd.R_mono HO_331001.out (fun _ hk => ⟨hk.2, ⟨hk.1.1, hk.1.2⟩⟩)⟩, ⟨by (with_reducible repeat (first | apply Kd.R_alloc | apply Kd.R_drewN | apply Kd.R_drew)); exact Kd.R_mono HO_331002.out (fun _ hk => ⟨hk.2, ⟨hk.1.1, hk.1.2⟩⟩)⟩, ⟨kb0_ BK320.out⟩, ⟨kb0_ BK330.out⟩, ⟨ke_ HB.out⟩⟩
                                ·rw [if_neg c76] at H; exact absurd H (by simp)
                              ·replace c73 := Bool.eq_false_iff.mpr c73; subst c73; (have H1 : (laws_FnNeeds.l1 kj65 t321 t322 x13_4 x14_2 (wrap64 (x15_4 + (wrap64 (((rd_T34 t309 t321).f0) * (rd t312 x16_4))))) (wrap64 (x16_4 + 1)) t309 t312 t315 t318 t319) = some r := by rw [if_neg (show ¬ (false = true) by decide)] at H; exact H); clear H; have H := H1; clear H1; have H' := Aside0.mk H; clear H
                               go_wp2
                               go_roundg kj65
                               case measure => have := HJ10.out; have := HK2.out; have := HJ45.out; have := HK4.out; have := HJ65.out; omega
                               case rel => exact ⟨(x13_4), ((wrap64 (x15_4 + (wrap64 (((rd_T34 t309 t321).f0) * (rd t312 x16_4)))))), (wrap64 (x16_4 + 1)), ks_, ks_, H', ⟨by have := HJ10.out; have := HK2.out; have := HJ45.out; have := HK4.out; have := HJ65.out; omega⟩, ⟨by (with_reducible repeat (first | apply Kd.S_alloc | apply Kd.S_drewN | apply Kd.S_drew)); exact HO_7.out⟩, ⟨by (with_reducible repeat (first | apply Kd.R_alloc | apply Kd.R_drewN | apply Kd.R_drew)); exact HO_13.out⟩, ⟨by (with_reducible repeat (first | apply Kd.R_alloc | apply Kd.R_drewN | apply Kd.R_drew)); exact HO_321000.out⟩, ⟨by (with_reducible repeat (first | apply Kd.R_alloc | apply Kd.R_drewN | apply Kd.R_drew)); exact HO_321001.out⟩, ⟨by (with_reducible repeat (first | apply Kd.R_alloc | apply Kd.R_drewN | apply Kd.R_drew)); exact HO_321002.out⟩, ⟨by (with_reducible repeat (first | apply Kd.R_alloc | apply Kd.R_drewN | apply Kd.R_drew)); exact HO_331000.out⟩, ⟨by (with_reducible repeat (first | apply Kd.R_alloc | apply Kd.R_drewN | apply Kd.R_drew)); exact HO_331001.out⟩, ⟨by (with_reducible repeat (first | apply Kd.R_alloc | apply Kd.R_drewN | apply Kd.R_drew)); exact HO_331002.out⟩, ⟨kb0_ BK320.out⟩, ⟨kb0_ BK330.out⟩, ⟨ke_ HB.out⟩⟩
                           ·rw [if_neg c65] at H; exact absurd H (by simp)
                          ·rw [if_neg c64] at H; exact absurd H (by simp)
                         ·rw [if_neg c63] at H; exact absurd H (by simp)
                        ·rw [if_neg c62] at H; exact absurd H (by simp)
                       ·rw [if_neg c61] at H; have c61b0 : decide (x16_4 ≤ (rd (rd_L3 t322 x14_2) 1)) = false := decide_eq_false c61; clear c61
                        by_cases c79 : 0 < ((rd_L3 t322 x14_2).length : Int)
                        ·rw [if_pos c79] at H; have c79b0 : decide (0 < ((rd_L3 t322 x14_2).length : Int)) = true := decide_eq_true c79; have c79b1 : decide (0 < (rd_L3 t322 x14_2).length) = true := decide_eq_true (by omega); clear c79; replace H := Option.bind_eq_some_iff.mp H; obtain ⟨⟨t355, t356⟩, A800, H⟩ := H; replace H : (if t356 = true then (if 0 ≤ t321 then (if t321 < (t309.length : Int) then (if x15_4 ≤ ((rd_T34 t309 t321).f1) then (none) else (if t355 = (wrap64 ((rd (rd_L3 t322 x14_2) 1) - (rd (rd_L3 t322 x14_2) 0))) then (laws_FnNeeds.l0 k4 t321 t322 x13_4 (wrap64 (x14_2 + 1)) t309 t312 t315 t318 t319) else (none))) else (none)) else (none)) else (none)) = some r := H; have A80 := Aside0.mk A800; clear A800
                         by_cases c81 : t356 = true
                         ·subst c81; (have H1 : (if 0 ≤ t321 then (if t321 < (t309.length : Int) then (if x15_4 ≤ ((rd_T34 t309 t321).f1) then (none) else (if t355 = (wrap64 ((rd (rd_L3 t322 x14_2) 1) - (rd (rd_L3 t322 x14_2) 0))) then (laws_FnNeeds.l0 k4 t321 t322 x13_4 (wrap64 (x14_2 + 1)) t309 t312 t315 t318 t319) else (none))) else (none)) else (none)) = some r := by rw [if_pos rfl] at H; exact H); clear H; have H := H1; clear H1
                          by_cases c82 : 0 ≤ t321
                          ·rw [if_pos c82] at H; have c82b0 : decide (0 ≤ t321) = true := decide_eq_true c82; clear c82
                           by_cases c83 : t321 < (t309.length : Int)
                           ·rw [if_pos c83] at H; have c83b0 : decide (t321 < (t309.length : Int)) = true := decide_eq_true c83; clear c83
                            by_cases c84 : x15_4 ≤ ((rd_T34 t309 t321).f1)
                            ·rw [if_pos c84] at H; exact absurd H (by simp)
                            ·rw [if_neg c84] at H; have c84b0 : decide (x15_4 ≤ ((rd_T34 t309 t321).f1)) = false := decide_eq_false c84; clear c84
                             by_cases c85 : t355 = (wrap64 ((rd (rd_L3 t322 x14_2) 1) - (rd (rd_L3 t322 x14_2) 0)))
                             ·rw [if_pos c85] at H; have c85b0 : (t355 == (wrap64 ((rd (rd_L3 t322 x14_2) 1) - (rd (rd_L3 t322 x14_2) 0)))) = true := beq_iff_eq.mpr c85; have c85b1 : (t355 != (wrap64 ((rd (rd_L3 t322 x14_2) 1) - (rd (rd_L3 t322 x14_2) 0)))) = false := bne_eq_false_iff_eq.mpr c85; clear c85; have H' := Aside0.mk H; clear H; have p351 : 0 ≤ (x14_2 : Int) := of_decide_eq_true (by assumption); have q351 : x14_2 < (t322.length : Int) := of_decide_eq_true (by assumption); obtain ⟨ad351, A351_0, c351_0, e351, hx351_0, hl351_0, hi351_0⟩ := at_L3 (Kd.S_reads' HO_7.out).2.2 x14_2 p351 q351; obtain rfl : ad349 = ad351 := (by injection e351); obtain ⟨ce351, hce351, hMe351, hcc351⟩ := Kd.S_get HO_7.out [] x14_2 p351 (by first | exact q351 | exact of_decide_eq_true (by assumption) | (have e_ := (Kd.S_reads' HO_7.out).1; omega)); obtain ⟨ve351_0, rfl, ge351_0⟩ := hMe351; have hv351_0 := hcc351 0 _ rfl; rw [Nat.add_zero, show ((Kd.slice 2 (Kd.int .i64))).sz = 1 from rfl, Nat.mul_one] at hv351_0; replace hv351_0 := Option.some.inj (hv351_0.symm.trans hx351_0); rw [hv351_0] at ge351_0; have HL351_0 := Aside0.mk (show Kd.R (Kd.int .i64) 2 _ _ _ _ (rd_L3 t322 x14_2) from ge351_0); clear hv351_0 ge351_0; clear hcc351 hce351; have HR351_0 := Aside0.mk hi351_0; have HC351_0 := Aside0.mk hl351_0; clear hi351_0 hl351_0; replace p351 := eq_true p351; replace q351 := eq_true q351; have p352 : 0 ≤ (1 : Int) := (by omega); have q352 : 1 < ((rd_L3 t322 x14_2).length : Int) := of_decide_eq_true (by assumption); obtain ⟨ad352, e352, hx352_0⟩ := Kd.at_int (by repeat (first | (with_reducible exact HR351_0.out) | (with_reducible first | refine Kd.C_alloc ?_ _ | refine Kd.C_drewN ?_ _ | refine Kd.C_drew ?_) | exact HR351_0.out)) 1 p352 q352
                              cases e352
                              (try simp only [show (1 : Int).toNat = 1 from rfl, Nat.reduceMul, Nat.reduceEqDiff, Go.Addr.add, ↓reduceIte] at hx352_0)
                              have qi352 : (1 < (rd_L3 t322 x14_2).length) = True := eq_true (by omega)
                              (try rw [show ((1 : Int)).toNat = 1 from rfl] at hx352_0)
                              replace p352 := eq_true p352; replace q352 := eq_true q352; (try go_wp2); have n0_ := Aside0.mk (Kd.S_drew HO_7.out); have n1_ := Aside0.mk (Kd.R_drew HO_13.out); have n2_ := Aside0.mk (Kd.R_drew HO_321000.out); have n3_ := Aside0.mk (Kd.R_drew HO_321001.out); have n4_ := Aside0.mk (Kd.R_drew HO_321002.out); have n5_ := Aside0.mk (Kd.R_drew HO_331000.out); have n6_ := Aside0.mk (Kd.R_drew HO_331001.out); have n7_ := Aside0.mk (Kd.R_drew HO_331002.out); have n8_ := Aside0.mk (Kd.R_drew HL351_0.out); have n9_ := Aside0.mk (blk_drew BK320.out); have n10_ := Aside0.mk (blk_drew BK330.out); have n11_ := Aside0.mk (Kd.C_drew HR351_0.out); have n12_ := Aside0.mk (below_drew1 HB.out); clear HO_7; clear HO_13; clear HO_321000; clear HO_321001; clear HO_321002; clear HO_331000; clear HO_331001; clear HO_331002; clear HL351_0; clear BK320; clear BK330; clear HR351_0; clear HB; have HO_7 := n0_; have HO_13 := n1_; have HO_321000 := n2_; have HO_321001 := n3_; have HO_321002 := n4_; have HO_331000 := n5_; have HO_331001 := n6_; have HO_331002 := n7_; have HL351_0 := n8_; have BK320 := n9_; have BK330 := n10_; have HR351_0 := n11_; have HB := n12_; clear n0_ n1_ n2_ n3_ n4_ n5_ n6_ n7_ n8_ n9_ n10_ n11_ n12_; have p353 : 0 ≤ (x14_2 : Int) := of_decide_eq_true (by assumption); have q353 : x14_2 < (t322.length : Int) := of_decide_eq_true (by assumption); obtain ⟨ad353, A353_0, c353_0, e353, hx353_0, hl353_0, hi353_0⟩ := at_L3 (Kd.S_reads' HO_7.out).2.2 x14_2 p353 q353; obtain rfl : ad349 = ad353 := (by injection e353); obtain ⟨ce353, hce353, hMe353, hcc353⟩ := Kd.S_get HO_7.out [] x14_2 p353 (by first | exact q353 | exact of_decide_eq_true (by assumption) | (have e_ := (Kd.S_reads' HO_7.out).1; omega)); obtain ⟨ve353_0, rfl, ge353_0⟩ := hMe353; have hv353_0 := hcc353 0 _ rfl; rw [Nat.add_zero, show ((Kd.slice 2 (Kd.int .i64))).sz = 1 from rfl, Nat.mul_one] at hv353_0; replace hv353_0 := Option.some.inj (hv353_0.symm.trans hx353_0); rw [hv353_0] at ge353_0; have HL353_0 := Aside0.mk (show Kd.R (Kd.int .i64) 2 _ _ _ _ (rd_L3 t322 x14_2) from ge353_0); clear hv353_0 ge353_0; clear hcc353 hce353; have HR353_0 := Aside0.mk hi353_0; have HC353_0 := Aside0.mk hl353_0; clear hi353_0 hl353_0; replace p353 := eq_true p353; replace q353 := eq_true q353; have p354 : 0 ≤ (0 : Int) := (by omega); have q354 : 0 < ((rd_L3 t322 x14_2).length : Int) := of_decide_eq_true (by assumption); obtain ⟨ad354, e354, hx354_0⟩ := Kd.at_int (by repeat (first | (with_reducible exact HR353_0.out) | (with_reducible first | refine Kd.C_alloc ?_ _ | refine Kd.C_drewN ?_ _ | refine Kd.C_drew ?_) | exact HR353_0.out)) 0 p354 q354
                              cases e354
                              have qi354 : (0 < (rd_L3 t322 x14_2).length) = True := eq_true (by omega)
                              (try rw [show ((0 : Int)).toNat = 0 from rfl] at hx354_0)
                              (try rw [Addr.add_zero'] at hx354_0)
                              replace p354 := eq_true p354; replace q354 := eq_true q354; refine start_ (n := 14) (S := fun w' => w'.cell? ⟨gb320, 0, none⟩ = some (.slice (some ad326) t309.length co14) ∧ w'.cell? ⟨gb320, 1, none⟩ = some (.slice Ao16 t312.length co16) ∧ w'.cell? ⟨gb320, 2, none⟩ = some (.slice Ao17 t315.length co17) ∧ w'.cell? ⟨gb320, 3, none⟩ = some (.int .i64 t318) ∧ w'.cell? ⟨gb320, 4, none⟩ = some (.int .i64 t319) ∧ w'.cell? (ad349.add (x14_2).toNat) = some (.slice (some ad354) (rd_L3 t322 x14_2).length c353_0) ∧ w'.cell? ad354 = some (.int .i64 (rd (rd_L3 t322 x14_2) 0))) (ds := []) m3_75 kr_ rfl rfl ⟨(blk_cell BK320.out 0).trans rfl, (blk_cell BK320.out 1).trans rfl, (blk_cell BK320.out 2).trans rfl, (blk_cell BK320.out 3).trans rfl, (blk_cell BK320.out 4).trans rfl, hx353_0, hx354_0⟩ (fun hHeld => ?_); refine with_tabW laws_FnNeeds.tab29 laws_FnNeeds.bits29 (fun HT_ HW_ => ?_); generalize wr.drew = w86 at HO_7 HO_13 HO_321000 HO_321001 HO_321002 HO_331000 HO_331001 HO_331002 HL351_0 BK320 BK330 HR351_0 HB HL353_0 HR353_0 hx353_0 hx354_0 hHeld ⊢; refine pu1_ 1 (some 168) m3_76 rfl rfl HT_.out ?_; refine pu1_ 2 (some 169) m3_77 rfl rfl HT_.out ?_; refine pu1_ 3 (some 170) m3_78 rfl rfl HT_.out ?_; refine pu1_ 4 (some 171) m3_79 rfl rfl HT_.out ?_; refine tk7_ 0 (some 167) m3_80 rfl rfl HT_.out HW_.out hHeld ?_; refine tk7_ 5 (some 172) m3_81 rfl rfl HT_.out HW_.out hHeld ?_; refine pu1_ 6 (some 173) m3_82 rfl rfl HT_.out ?_; refine tk7_ 7 (some 174) m3_83 rfl rfl HT_.out HW_.out hHeld ?_; refine one_ (i := 8) (N := some 175) m3_84 rfl rfl (one_of HT_.out kr_) (by decide) (fun K hK => ?_); refine goes_ Try.func16 kr_ rfl #[.agg #[.slice (some ad326) t309.length co14, .slice Ao16 t312.length co16, .slice Ao17 t315.length co17, .int .i64 t318, .int .i64 t319], .int .i64 t321, .int .i64 (rd (rd_L3 t322 x14_2) 0)] (by rfl) rfl rfl km_ ?_; with_reducible refine (impl_RangeOf.calls k4 _ _ t309 _ _ t312 _ _ t315 t318 t319 t321 (rd (rd_L3 t322 x14_2) 0) t355 true _ ?side1 ?side2 ?side3 ?side4 ?side5 ?side6 A80.out).mono ?_
                              (case side1 => repeat (first | exact (Kd.R_reads' HO_321000.out).2.2 | (with_reducible first | refine Kd.C_alloc ?_ _ | refine Kd.C_drewN ?_ _ | refine Kd.C_drew ?_)))
                              (case side2 => exact (Kd.R_reads' HO_321000.out).2.1)
                              (case side3 => repeat (first | exact (Kd.R_reads' HO_321001.out).2.2 | (with_reducible first | refine Kd.C_alloc ?_ _ | refine Kd.C_drewN ?_ _ | refine Kd.C_drew ?_)))
                              (case side4 => exact (Kd.R_reads' HO_321001.out).2.1)
                              (case side5 => repeat (first | exact (Kd.R_reads' HO_321002.out).2.2 | (with_reducible first | refine Kd.C_alloc ?_ _ | refine Kd.C_drewN ?_ _ | refine Kd.C_drew ?_)))
                              (case side6 => exact (Kd.R_reads' HO_321002.out).2.1)
                              rintro e w87 ⟨rfl, hb⟩; have HS5_ := (hb.cell (World.block_lt_of_cell? _ _ (hHeld.2.2.2.2.2.1))).trans (hHeld.2.2.2.2.2.1); have HS6_ := (hb.cell (World.block_lt_of_cell? _ _ (hHeld.2.2.2.2.2.2))).trans (hHeld.2.2.2.2.2.2); refine ⟨_, rfl, ?_⟩; have n0_ := Aside0.mk (Kd.S_below (by (with_reducible repeat (first | apply Kd.S_alloc | apply Kd.S_drewN | apply Kd.S_drew)); exact HO_7.out) hb); have n1_ := Aside0.mk (Kd.R_below (by (with_reducible repeat (first | apply Kd.R_alloc | apply Kd.R_drewN | apply Kd.R_drew)); exact HO_13.out) hb); have n2_ := Aside0.mk (Kd.R_below (by (with_reducible repeat (first | apply Kd.R_alloc | apply Kd.R_drewN | apply Kd.R_drew)); exact HO_321000.out) hb); have n3_ := Aside0.mk (Kd.R_below (by (with_reducible repeat (first | apply Kd.R_alloc | apply Kd.R_drewN | apply Kd.R_drew)); exact HO_321001.out) hb); have n4_ := Aside0.mk (Kd.R_below (by (with_reducible repeat (first | apply Kd.R_alloc | apply Kd.R_drewN | apply Kd.R_drew)); exact HO_321002.out) hb); have n5_ := Aside0.mk (Kd.R_below (by (with_reducible repeat (first | apply Kd.R_alloc | apply Kd.R_drewN | apply Kd.R_drew)); exact HO_331000.out) hb); have n6_ := Aside0.mk (Kd.R_below (by (with_reducible repeat (first | apply Kd.R_alloc | apply Kd.R_drewN | apply Kd.R_drew)); exact HO_331001.out) hb); have n7_ := Aside0.mk (Kd.R_below (by (with_reducible repeat (first | apply Kd.R_alloc | apply Kd.R_drewN | apply Kd.R_drew)); exact HO_331002.out) hb); have n8_ := Aside0.mk (Kd.R_below (by (with_reducible repeat (first | apply Kd.R_alloc | apply Kd.R_drewN | apply Kd.R_drew)); exact HL351_0.out) hb); have n9_ := Aside0.mk (Kd.R_below (by (with_reducible repeat (first | apply Kd.R_alloc | apply Kd.R_drewN | apply Kd.R_drew)); exact HL353_0.out) hb); have n10_ := Aside0.mk (blk_below (kb0_ BK320.out) hb); have n11_ := Aside0.mk (blk_below (kb0_ BK330.out) hb); have n12_ := Aside0.mk (Kd.C_below (by repeat (first | (with_reducible exact HR351_0.out) | (with_reducible first | refine Kd.C_alloc ?_ _ | refine Kd.C_drewN ?_ _ | refine Kd.C_drew ?_) | exact HR351_0.out)) hb); have n13_ := Aside0.mk (Kd.C_below (by repeat (first | (with_reducible exact HR353_0.out) | (with_reducible first | refine Kd.C_alloc ?_ _ | refine Kd.C_drewN ?_ _ | refine Kd.C_drew ?_) | exact HR353_0.out)) hb); have n14_ := Aside0.mk (below_step (ke_ HB.out) hb); clear HO_7; clear HO_13; clear HO_321000; clear HO_321001; clear HO_321002; clear HO_331000; clear HO_331001; clear HO_331002; clear HL351_0; clear HL353_0; clear BK320; clear BK330; clear HR351_0; clear HR353_0; clear HB; have HO_7 := n0_; have HO_13 := n1_; have HO_321000 := n2_; have HO_321001 := n3_; have HO_321002 := n4_; have HO_331000 := n5_; have HO_331001 := n6_; have HO_331002 := n7_; have HL351_0 := n8_; have HL353_0 := n9_; have BK320 := n10_; have BK330 := n11_; have HR351_0 := n12_; have HR353_0 := n13_; have HB := n14_; clear n0_ n1_ n2_ n3_ n4_ n5_ n6_ n7_ n8_ n9_ n10_ n11_ n12_ n13_ n14_
                              (try clear hb)
                              (try clear hb2)
                              (try clear hk)
                              (try clear hi)
                              refine hK.out _ _ ⟨(blk_cell BK320.out 0).trans rfl, (blk_cell BK320.out 1).trans rfl, (blk_cell BK320.out 2).trans rfl, (blk_cell BK320.out 3).trans rfl, (blk_cell BK320.out 4).trans rfl, HS5_, HS6_⟩ (fun hHeld => ?_); clear hK K; refine norm_ (a' := ?_) ?_ ?_; rotate_left
                              ·show Act.put _ (some 175) _ = _
                               simp only [Act.put, qa_, qz_, qs_, i64_w, i32_w]; rfl
                              refine pu1_ 9 (some 166) m3_85 rfl rfl HT_.out ?_; refine pu1_ 10 (some 176) m3_86 rfl rfl HT_.out ?_; refine pu1_ 11 (some 177) m3_87 rfl rfl HT_.out ?_; refine pu1_ 12 (some 17) m3_88 rfl rfl HT_.out ?_; refine pu1_ 13 (some 18) m3_89 rfl rfl HT_.out ?_; refine done_ (done_of HT_.out kr_) ?_; (try go_wp2); have n0_ := Aside0.mk (Kd.S_drew HO_7.out); have n1_ := Aside0.mk (Kd.R_drew HO_13.out); have n2_ := Aside0.mk (Kd.R_drew HO_321000.out); have n3_ := Aside0.mk (Kd.R_drew HO_321001.out); have n4_ := Aside0.mk (Kd.R_drew HO_321002.out); have n5_ := Aside0.mk (Kd.R_drew HO_331000.out); have n6_ := Aside0.mk (Kd.R_drew HO_331001.out); have n7_ := Aside0.mk (Kd.R_drew HO_331002.out); have n8_ := Aside0.mk (Kd.R_drew HL351_0.out); have n9_ := Aside0.mk (Kd.R_drew HL353_0.out); have n10_ := Aside0.mk (blk_drew BK320.out); have n11_ := Aside0.mk (blk_drew BK330.out); have n12_ := Aside0.mk (Kd.C_drew HR351_0.out); have n13_ := Aside0.mk (Kd.C_drew HR353_0.out); have n14_ := Aside0.mk (below_drew1 HB.out); clear HO_7; clear HO_13; clear HO_321000; clear HO_321001; clear HO_321002; clear HO_331000; clear HO_331001; clear HO_331002; clear HL351_0; clear HL353_0; clear BK320; clear BK330; clear HR351_0; clear HR353_0; clear HB; have HO_7 := n0_; have HO_13 := n1_; have HO_321000 := n2_; have HO_321001 := n3_; have HO_321002 := n4_; have HO_331000 := n5_; have HO_331001 := n6_; have HO_331002 := n7_; have HL351_0 := n8_; have HL353_0 := n9_; have BK320 := n10_; have BK330 := n11_; have HR351_0 := n12_; have HR353_0 := n13_; have HB := n14_; clear n0_ n1_ n2_ n3_ n4_ n5_ n6_ n7_ n8_ n9_ n10_ n11_ n12_ n13_ n14_; have p357 : 0 ≤ (t321 : Int) := of_decide_eq_true (by assumption); have q357 : t321 < (t309.length : Int) := of_decide_eq_true (by assumption); obtain ⟨ad357, e357, hx357_0, hx357_1⟩ := at_T34 (Kd.R_reads' HO_321000.out).2.2 t321 p357 q357; obtain rfl : ad326 = ad357 := (by injection e357); replace p357 := eq_true p357; replace q357 := eq_true q357; have p358 : 0 ≤ (x14_2 : Int) := of_decide_eq_true (by assumption); have q358 : x14_2 < (t322.length : Int) := of_decide_eq_true (by assumption); obtain ⟨ad358, A358_0, c358_0, e358, hx358_0, hl358_0, hi358_0⟩ := at_L3 (Kd.S_reads' HO_7.out).2.2 x14_2 p358 q358; obtain rfl : ad349 = ad358 := (by injection e358); obtain ⟨ce358, hce358, hMe358, hcc358⟩ := Kd.S_get HO_7.out [] x14_2 p358 (by first | exact q358 | exact of_decide_eq_true (by assumption) | (have e_ := (Kd.S_reads' HO_7.out).1; omega)); obtain ⟨ve358_0, rfl, ge358_0⟩ := hMe358; have hv358_0 := hcc358 0 _ rfl; rw [Nat.add_zero, show ((Kd.slice 2 (Kd.int .i64))).sz = 1 from rfl, Nat.mul_one] at hv358_0; replace hv358_0 := Option.some.inj (hv358_0.symm.trans hx358_0); rw [hv358_0] at ge358_0; have HL358_0 := Aside0.mk (show Kd.R (Kd.int .i64) 2 _ _ _ _ (rd_L3 t322 x14_2) from ge358_0); clear hv358_0 ge358_0; clear hcc358 hce358; have HR358_0 := Aside0.mk hi358_0; have HC358_0 := Aside0.mk hl358_0; clear hi358_0 hl358_0; replace p358 := eq_true p358; replace q358 := eq_true q358; have p359 : 0 ≤ (1 : Int) := (by omega); have q359 : 1 < ((rd_L3 t322 x14_2).length : Int) := of_decide_eq_true (by assumption); obtain ⟨ad359, e359, hx359_0⟩ := Kd.at_int (by repeat (first | (with_reducible exact HR358_0.out) | (with_reducible first | refine Kd.C_alloc ?_ _ | refine Kd.C_drewN ?_ _ | refine Kd.C_drew ?_) | exact HR358_0.out)) 1 p359 q359
                              cases e359
                              (try simp only [show (1 : Int).toNat = 1 from rfl, Nat.reduceMul, Nat.reduceEqDiff, Go.Addr.add, ↓reduceIte] at hx359_0)
                              have qi359 : (1 < (rd_L3 t322 x14_2).length) = True := eq_true (by omega)
                              (try rw [show ((1 : Int)).toNat = 1 from rfl] at hx359_0)
                              replace p359 := eq_true p359; replace q359 := eq_true q359; have p360 : 0 ≤ (x14_2 : Int) := of_decide_eq_true (by assumption); have q360 : x14_2 < (t322.length : Int) := of_decide_eq_true (by assumption); obtain ⟨ad360, A360_0, c360_0, e360, hx360_0, hl360_0, hi360_0⟩ := at_L3 (Kd.S_reads' HO_7.out).2.2 x14_2 p360 q360; obtain rfl : ad349 = ad360 := (by injection e360); obtain ⟨ce360, hce360, hMe360, hcc360⟩ := Kd.S_get HO_7.out [] x14_2 p360 (by first | exact q360 | exact of_decide_eq_true (by assumption) | (have e_ := (Kd.S_reads' HO_7.out).1; omega)); obtain ⟨ve360_0, rfl, ge360_0⟩ := hMe360; have hv360_0 := hcc360 0 _ rfl; rw [Nat.add_zero, show ((Kd.slice 2 (Kd.int .i64))).sz = 1 from rfl, Nat.mul_one] at hv360_0; replace hv360_0 := Option.some.inj (hv360_0.symm.trans hx360_0); rw [hv360_0] at ge360_0; have HL360_0 := Aside0.mk (show Kd.R (Kd.int .i64) 2 _ _ _ _ (rd_L3 t322 x14_2) from ge360_0); clear hv360_0 ge360_0; clear hcc360 hce360; have HR360_0 := Aside0.mk hi360_0; have HC360_0 := Aside0.mk hl360_0; clear hi360_0 hl360_0; replace p360 := eq_true p360; replace q360 := eq_true q360; have ea_ := Option.some.inj (hx358_0.symm.trans hx360_0)
                              injection ea_ with ea_ en_ ec_
                              subst ea_; subst ec_; clear en_; have p361 : 0 ≤ (0 : Int) := (by omega); have q361 : 0 < ((rd_L3 t322 x14_2).length : Int) := of_decide_eq_true (by assumption); obtain ⟨ad361, e361, hx361_0⟩ := Kd.at_int (by repeat (first | (with_reducible exact HR360_0.out) | (with_reducible first | refine Kd.C_alloc ?_ _ | refine Kd.C_drewN ?_ _ | refine Kd.C_drew ?_) | exact HR360_0.out)) 0 p361 q361
                              cases e361
                              have qi361 : (0 < (rd_L3 t322 x14_2).length) = True := eq_true (by omega)
                              (try rw [show ((0 : Int)).toNat = 0 from rfl] at hx361_0)
                              (try rw [Addr.add_zero'] at hx361_0)
                              replace p361 := eq_true p361; replace q361 := eq_true q361; refine start_ (n := 29) (S := fun w' => w'.cell? ⟨gb320, 0, none⟩ = some (.slice (some ad326) t309.length co14) ∧ w'.cell? ⟨gb320, 1, none⟩ = some (.slice Ao16 t312.length co16) ∧ w'.cell? ⟨gb320, 2, none⟩ = some (.slice Ao17 t315.length co17) ∧ w'.cell? ⟨gb320, 3, none⟩ = some (.int .i64 t318) ∧ w'.cell? ⟨gb320, 4, none⟩ = some (.int .i64 t319) ∧ w'.cell? (ad326.add ((t321).toNat * 2)) = some (.int .i64 ((rd_T34 t309 t321).f0)) ∧ w'.cell? ⟨(ad326.add ((t321).toNat * 2)).block, (ad326.add ((t321).toNat * 2)).off + 1, none⟩ = some (.int .i64 ((rd_T34 t309 t321).f1)) ∧ w'.cell? (ad349.add (x14_2).toNat) = some (.slice (some ad359) (rd_L3 t322 x14_2).length c358_0) ∧ w'.cell? ⟨ad359.block, ad359.off + 1, none⟩ = some (.int .i64 (rd (rd_L3 t322 x14_2) 1)) ∧ w'.cell? (ad349.add (x14_2).toNat) = some (.slice (some ad359) (rd_L3 t322 x14_2).length c358_0) ∧ w'.cell? ad359 = some (.int .i64 (rd (rd_L3 t322 x14_2) 0))) (ds := []) m3_90 kr_ rfl rfl ⟨(blk_cell BK320.out 0).trans rfl, (blk_cell BK320.out 1).trans rfl, (blk_cell BK320.out 2).trans rfl, (blk_cell BK320.out 3).trans rfl, (blk_cell BK320.out 4).trans rfl, hx357_0, hx357_1, hx358_0, hx359_0, hx360_0, hx361_0⟩ (fun hHeld => ?_); refine with_tabW laws_FnNeeds.tab30 laws_FnNeeds.bits30 (fun HT_ HW_ => ?_); generalize w87.drew = w88 at HO_7 HO_13 HO_321000 HO_321001 HO_321002 HO_331000 HO_331001 HO_331002 HL351_0 HL353_0 BK320 BK330 HR351_0 HR353_0 HB HL358_0 HL360_0 HR358_0 HR360_0 hx357_0 hx357_1 hx358_0 hx359_0 hx360_0 hx361_0 hHeld ⊢; refine pu1_ 0 (some 178) m3_91 rfl rfl HT_.out ?_; refine pu1_ 1 (some 179) m3_92 rfl rfl HT_.out ?_; refine pu1_ 2 (some 180) m3_93 rfl rfl HT_.out ?_; refine pu1_ 3 (some 181) m3_94 rfl rfl HT_.out ?_; refine pu1_ 4 (some 182) m3_95 rfl rfl HT_.out ?_; refine pu1_ 6 (some 184) m3_96 rfl rfl HT_.out ?_; refine tk11_ 5 (some 183) m3_97 rfl rfl HT_.out HW_.out hHeld ?_; refine pu1_ 7 (some 185) m3_98 rfl rfl HT_.out ?_; refine pu1_ 8 (some 186) m3_99 rfl rfl HT_.out ?_; refine tk11_ 9 (some 187) m3_100 rfl rfl HT_.out HW_.out hHeld ?_; refine pu1_ 10 (some 188) m3_101 rfl rfl HT_.out ?_; refine pu1_ 11 (some 189) m3_102 rfl rfl HT_.out ?_; refine pu1_ 12 (some 190) m3_103 rfl rfl HT_.out ?_; refine pu1_ 13 (some 191) m3_104 rfl rfl HT_.out ?_; refine pu1_ 14 (some 192) m3_105 rfl rfl HT_.out ?_; refine pu1_ 15 (some 193) m3_106 rfl rfl HT_.out ?_; refine pu1_ 16 (some 194) m3_107 rfl rfl HT_.out ?_; refine pu1_ 20 (some 198) m3_108 rfl rfl HT_.out ?_; refine pu1_ 21 (some 199) m3_109 rfl rfl HT_.out ?_; refine pu1_ 22 (some 200) m3_110 rfl rfl HT_.out ?_; refine tk11_ 17 (some 195) m3_111 rfl rfl HT_.out HW_.out hHeld ?_; refine pu1_ 18 (some 196) m3_112 rfl rfl HT_.out ?_; refine tk11_ 19 (some 197) m3_113 rfl rfl HT_.out HW_.out hHeld ?_; refine tk11_ 23 (some 201) m3_114 rfl rfl HT_.out HW_.out hHeld ?_; refine pu1_ 24 (some 202) m3_115 rfl rfl HT_.out ?_; refine tk11_ 25 (some 203) m3_116 rfl rfl HT_.out HW_.out hHeld ?_; refine pu1_ 26 (some 204) m3_117 rfl rfl HT_.out ?_; refine pu1_ 27 (some 205) m3_118 rfl rfl HT_.out ?_; refine pu1_ 28 (some 206) m3_119 rfl rfl HT_.out ?_; refine done_ (done_of HT_.out kr_) ?_; try go_wp2
                              go_roundg k4
                              case measure => have := HJ10.out; have := HK2.out; have := HJ45.out; have := HK4.out; omega
                              case rel => exact ⟨(x13_4), (wrap64 (x14_2 + 1)), ks_, H', ⟨by have := HJ10.out; have := HK2.out; have := HJ45.out; have := HK4.out; omega⟩, ⟨by (with_reducible repeat (first | apply Kd.S_alloc | apply Kd.S_drewN | apply Kd.S_drew)); exact HO_7.out⟩, ⟨by (with_reducible repeat (first | apply Kd.R_alloc | apply Kd.R_drewN | apply Kd.R_drew)); exact HO_13.out⟩, ⟨by (with_reducible repeat (first | apply Kd.R_alloc | apply Kd.R_drewN | apply Kd.R_drew)); exact HO_321000.out⟩, ⟨by (with_reducible repeat (first | apply Kd.R_alloc | apply Kd.R_drewN | apply Kd.R_drew)); exact HO_321001.out⟩, ⟨by (with_reducible repeat (first | apply Kd.R_alloc | apply Kd.R_drewN | apply Kd.R_drew)); exact HO_321002.out⟩, ⟨by (with_reducible repeat (first | apply Kd.R_alloc | apply Kd.R_drewN | apply Kd.R_drew)); exact HO_331000.out⟩, ⟨by (with_reducible repeat (first | apply Kd.R_alloc | apply Kd.R_drewN | apply Kd.R_drew)); exact HO_331001.out⟩, ⟨by (with_reducible repeat (first | apply Kd.R_alloc | apply Kd.R_drewN | apply Kd.R_drew)); exact HO_331002.out⟩, ⟨kb0_ BK320.out⟩, ⟨kb0_ BK330.out⟩, ⟨ke_ HB.out⟩⟩
                             ·rw [if_neg c85] at H; exact absurd H (by simp)
                           ·rw [if_neg c83] at H; exact absurd H (by simp)
                          ·rw [if_neg c82] at H; exact absurd H (by simp)
                         ·replace c81 := Bool.eq_false_iff.mpr c81; subst c81; (have H1 : (none) = some r := by rw [if_neg (show ¬ (false = true) by decide)] at H; exact H); clear H; have H := H1; clear H1; exact absurd H (by simp)
                        ·rw [if_neg c79] at H; exact absurd H (by simp)
                      ·rw [if_neg c60] at H; exact absurd H (by simp)
                     ·rw [if_neg c59] at H; exact absurd H (by simp)
                    ·rw [if_neg c58] at H; exact absurd H (by simp)
                 ·rw [if_neg c57] at H; exact absurd H (by simp)
                ·rw [if_neg c56] at H; exact absurd H (by simp)
               ·rw [if_neg c55] at H; exact absurd H (by simp)
           ·rw [if_neg c45] at H; have c45b0 : decide (x14_2 < (t322.length : Int)) = false := decide_eq_false c45; clear c45; obtain rfl := Option.some.inj H
            go_wp2
            go_ret
            exact ⟨by first | rfl | (simp [errW_none, errW_some] <;> rfl) | (simp [*, errW_none, errW_some] <;> rfl) | (simp [tz_, *]; done), ke_ HB.out⟩
        ·rw [if_neg c41] at H; exact absurd H (by simp)
       ·replace c40 := Bool.eq_false_iff.mpr c40; subst c40; (have H1 : (some true) = some r := by rw [if_neg (show ¬ (false = true) by decide)] at H; exact H); clear H; have H := H1; clear H1; obtain rfl := Option.some.inj H
        go_wp2
        go_ret
        exact ⟨by first | rfl | (simp [errW_none, errW_some] <;> rfl) | (simp [*, errW_none, errW_some] <;> rfl) | (simp [tz_, *]; done), ke_ HB.out⟩
   ·rw [if_neg c9] at H; exact absurd H (by simp)
  ·rw [if_neg c8] at H; exact absurd H (by simp)

/-- THE ONE PURE STATEMENT of laws_FnNeeds: yours. -/
def laws_FnNeeds.Pure : Prop := ∀ (l0 : List Int) (l1 : List Int), l0.length ≤ maxLen → l0.length * 1 ≤ 140737488351232 → (∀ x ∈ l0, (Lit.int .u8 x).wf = true) → l1.length ≤ maxLen → l1.length * 1 ≤ 140737488351232 → (∀ x ∈ l1, (Lit.int .u8 x).wf = true) → ∃ k, laws_FnNeeds.f k l0 l1 = some true
theorem laws_FnNeeds.walk (P : laws_FnNeeds.Pure) (a0 : Option Addr) (len0 cap0 : Nat) (z0 : List Int) (a1 : Option Addr) (len1 cap1 : Nat) (z1 : List Int) (w : World) (w0 : (a0 = none ∧ len0 = 0 ∧ cap0 = 0 ∧ z0 = []) ∨ ∃ x, a0 = some x ∧ len0 ≤ cap0 ∧ cap0 ≤ maxLen ∧ z0.length = cap0 ∧ (∀ i, i < z0.length → w.cell? (x.add i) = some (.int .u8 (z0.getD i 0))) ∧ ∀ n ∈ z0, (Lit.int .u8 n).wf = true) (y0 : len0 * 1 ≤ 140737488351232) (w1 : (a1 = none ∧ len1 = 0 ∧ cap1 = 0 ∧ z1 = []) ∨ ∃ x, a1 = some x ∧ len1 ≤ cap1 ∧ cap1 ≤ maxLen ∧ z1.length = cap1 ∧ (∀ i, i < z1.length → w.cell? (x.add i) = some (.int .u8 (z1.getD i 0))) ∧ ∀ n ∈ z1, (Lit.int .u8 n).wf = true) (y1 : len1 * 1 ≤ 140737488351232) :
  Calls Try.prog 3 #[.slice a0 len0 cap0, .slice a1 len1 cap1] w fun e w' => e = .returned (.bool true) ∧ Below w.heap.size w w' := by
 obtain ⟨l0, rfl, hr0, hm0, hw0, hc0⟩ := ReadsInt.ofRowC w0
 obtain ⟨l1, rfl, hr1, hm1, hw1, hc1⟩ := ReadsInt.ofRowC w1
 obtain ⟨k, h⟩ := P l0 l1 hm0 y0 hw0 hm1 y1 hw1
 refine (laws_FnNeeds.calls k _ _ l0 _ _ l1 true w (Kd.C_of_reads (d := (0 : Int)) (h1 := fun _ => rfl) hr0) hc0 (Kd.C_of_reads (d := (0 : Int)) (h1 := fun _ => rfl) hr1) hc1 h).mono ?_
 rintro e w' ⟨rfl, hd⟩
 exact ⟨rfl, hd⟩

/- A test at each of some numbers that follow one another. -/
open Go.RowKit Go.Proofs.Ytfcadpkhmkjibaa.P Go.Proofs.YtfcadpkhmkjibaaW.PrintWords Go.Proofs.YtfcadpkhmkjibaaW.PrintLast Go.Proofs.YtfcadpkhmkjibaaW.PrintMore
set_option linter.unusedVariables false
set_option linter.unusedSimpArgs false
def upTo (p : Nat → Bool) : Nat → Nat → Bool
  | 0, _ => true
  | d + 1, i => p i && upTo p d (i + 1)
theorem upTo_iff (p : Nat → Bool) : ∀ (d i : Nat), upTo p d i = true ↔ ∀ j, i ≤ j → j < i + d → p j = true := by
  intro d
  induction d with
  | zero => intro i; simp [upTo]; intro j h1 h2; omega
  | succ d ih =>
    intro i
    simp only [upTo, Bool.and_eq_true, ih]
    constructor
    · intro ⟨h0, h⟩ j h1 h2
      by_cases e : i = j
      · rw [← e]; exact h0
      · exact h j (by omega) (by omega)
    · intro h
      exact ⟨h i (Nat.le_refl _) (by omega), fun j h1 h2 => h j (by omega) (by omega)⟩

/- Numbers in a range that rise. -/
def riseOk (l : List Int) (lo hi : Int) (i : Nat) : Bool := decide (lo ≤ rd l i ∧ rd l i ≤ hi) && (decide (i = 0) || decide (rd l ((i - 1 : Nat) : Int) < rd l i))
def rises (l : List Int) (lo hi : Int) : Bool := upTo (riseOk l lo hi) l.length 0

/- What is asked of a head. -/
def cuOk (cs : List S34) (i : Nat) : Bool := decide (1 ≤ (rd_T34 cs i).f0 ∧ (rd_T34 cs i).f0 ≤ 100) && decide (1 ≤ (rd_T34 cs i).f1 ∧ (rd_T34 cs i).f1 ≤ 1000000)
def hdOk (cs : List S34) (fc st : List Int) (x y : Int) : Bool :=
  decide (1 ≤ (cs.length : Int) ∧ (cs.length : Int) ≤ 5) && (decide ((fc.length : Int) ≤ 60) && (decide ((st.length : Int) ≤ 8) && (rises st 0 (wrap64 ((fc.length : Int) - 1)) && (upTo (cuOk cs) cs.length 0 && (impl_areWithin.all 0 100 fc && (decide (0 ≤ x ∧ x ≤ 10000) && decide (0 ≤ y ∧ y ≤ 10000)))))))

/- How far a cutter lasts, plainly. -/
def reachGo (ax lim : Int) (fc : List Int) : Nat → Nat → Int → Nat
  | 0, i, _ => i
  | d + 1, i, s => if wrap64 (s + wrap64 (ax * rd fc (i : Int))) > lim then i else reachGo ax lim fc d (i + 1) (wrap64 (s + wrap64 (ax * rd fc (i : Int))))
def reachOf (cs : List S34) (fc : List Int) (a b : Nat) (s : Int) : Nat := reachGo (rd_T34 cs (a : Int)).f0 (rd_T34 cs (a : Int)).f1 fc (fc.length - b) b s
def rangeP (cs : List S34) (fc st : List Int) (x y a b : Int) : Int × Bool :=
  if hdOk cs fc st x y = true ∧ (0 ≤ a ∧ a ≤ (cs.length : Int) - 1) ∧ (0 ≤ b ∧ b ≤ (fc.length : Int) - 1) then (wrap64 ((reachOf cs fc a.toNat b.toNat 0 : Nat) - b), true) else (0, false)

/- The stints of a cutter, plainly. -/
theorem reachGo_in (ax lim : Int) (fc : List Int) : ∀ (d i : Nat) (s : Int), i ≤ reachGo ax lim fc d i s ∧ reachGo ax lim fc d i s ≤ i + d
  | 0, i, s => by simp [reachGo]
  | d + 1, i, s => by
    have := reachGo_in ax lim fc d (i + 1) (wrap64 (s + wrap64 (ax * rd fc (i : Int))))
    simp only [reachGo]
    split <;> omega
theorem reachOf_in (cs : List S34) (fc : List Int) (a b : Nat) (s : Int) (hb : b ≤ fc.length) : b ≤ reachOf cs fc a b s ∧ reachOf cs fc a b s ≤ fc.length := by
  unfold reachOf
  have := reachGo_in (rd_T34 cs (a : Int)).f0 (rd_T34 cs (a : Int)).f1 fc (fc.length - b) b s
  omega
def nextOf (st : List Int) (b t : Int) : Nat → Nat → Int → Int
  | 0, _, c => c
  | d + 1, i, c => nextOf st b t d (i + 1) (if rd st (i : Int) > b then (if rd st (i : Int) ≤ t then rd st (i : Int) else c) else c)
theorem nextOf_in (st : List Int) (b t : Int) : ∀ (d i : Nat) (c : Int), nextOf st b t d i c = c ∨ (b < nextOf st b t d i c ∧ nextOf st b t d i c ≤ t)
  | 0, i, c => Or.inl rfl
  | d + 1, i, c => by
    simp only [nextOf]
    by_cases h1 : rd st (i : Int) > b
    · by_cases h2 : rd st (i : Int) ≤ t
      · rw [if_pos h1, if_pos h2]
        rcases nextOf_in st b t d (i + 1) (rd st (i : Int)) with h | h
        · right; rw [h]; omega
        · exact Or.inr h
      · rw [if_pos h1, if_neg h2]
        exact nextOf_in st b t d (i + 1) c
    · rw [if_neg h1]
      exact nextOf_in st b t d (i + 1) c
def stintsGo (cs : List S34) (fc st : List Int) (a : Nat) : Nat → Nat → List (List Int) → List (List Int) × Bool
  | 0, _, _ => ([], false)
  | d + 1, b, acc => if ((reachOf cs fc a b 0 : Nat) : Int) = (fc.length : Int) then (acc, true) else
      if nextOf st b (reachOf cs fc a b 0 : Nat) st.length 0 (-1) < 0 then ([], false) else
      stintsGo cs fc st a d (nextOf st b (reachOf cs fc a b 0 : Nat) st.length 0 (-1)).toNat (acc ++ [[(b : Int), ((reachOf cs fc a b 0 : Nat) : Int)]])
theorem stintsGo_len (cs : List S34) (fc st : List Int) (a : Nat) : ∀ (d b : Nat) (acc : List (List Int)), (stintsGo cs fc st a d b acc).1.length ≤ acc.length + d
  | 0, _, _ => by simp [stintsGo]
  | d + 1, b, acc => by
    simp only [stintsGo]
    split
    · simp
    · split
      · simp
      · have := stintsGo_len cs fc st a d (nextOf st b (reachOf cs fc a b 0 : Nat) st.length 0 (-1)).toNat (acc ++ [[(b : Int), ((reachOf cs fc a b 0 : Nat) : Int)]])
        simp only [List.length_append, List.length_cons, List.length_nil] at this
        omega
def stints (cs : List S34) (fc st : List Int) (a : Nat) : List (List Int) × Bool := stintsGo cs fc st a (fc.length + 1) 0 []
theorem stints_len (cs : List S34) (fc st : List Int) (a : Nat) : (stints cs fc st a).1.length ≤ fc.length + 1 := by
  have := stintsGo_len cs fc st a (fc.length + 1) 0 []
  simpa [stints] using this

/- The bound on a head's cost, plainly. -/
def bndGo (cs : List S34) (fc st : List Int) : Nat → Nat → Int → Int → Option (Int × Int)
  | 0, _, n, m => some (n, m)
  | d + 1, i, n, m => if (stints cs fc st i).2 = true then bndGo cs fc st d (i + 1) (n + ((stints cs fc st i).1.length : Int)) (if m < ((stints cs fc st i).1.length : Int) then ((stints cs fc st i).1.length : Int) else m) else none
def boundP (cs : List S34) (fc st : List Int) (x y : Int) : Int × Bool :=
  if hdOk cs fc st x y = true then (match bndGo cs fc st cs.length 0 0 0 with
    | some p => (wrap64 (y * p.1 + wrap64 (x * p.2)), true)
    | none => (0, false)) else (0, false)
theorem mul10k (y n : Int) (hy : 0 ≤ y ∧ y ≤ 10000) (hn : 0 ≤ n ∧ n ≤ 100000) : 0 ≤ y * n ∧ y * n ≤ 1000000000 := by
  constructor
  · exact Int.mul_nonneg hy.1 hn.1
  · have h1 : y * n ≤ 10000 * n := Int.mul_le_mul_of_nonneg_right hy.2 hn.1
    omega
theorem hdOk_in {cs : List S34} {fc st : List Int} {x y : Int} (h : hdOk cs fc st x y = true) : cs.length ≤ 5 ∧ fc.length ≤ 60 ∧ st.length ≤ 8 ∧ (0 ≤ x ∧ x ≤ 10000) ∧ (0 ≤ y ∧ y ≤ 10000) := by
  unfold hdOk at h
  simp only [Bool.and_eq_true, decide_eq_true_eq] at h
  obtain ⟨h1, h2, h3, _, _, _, h4, h5⟩ := h
  exact ⟨by omega, by omega, by omega, h4, h5⟩

/- Plain facts on numbers and lists that every loop's lemma uses. -/
theorem w64 (x : Int) (h1 : -9223372036854775808 ≤ x) (h2 : x ≤ 9223372036854775807) : wrap64 x = x := by unfold wrap64; omega
theorem w64s (i : Nat) (h : i < 9223372036854775807) : wrap64 ((i : Int) + 1) = ((i + 1 : Nat) : Int) := by unfold wrap64; omega
theorem wfu8 {x : Int} (h : (Lit.int .u8 x).wf = true) : 0 ≤ x ∧ x ≤ 255 := by
  simp only [Lit.wf, IntKind.min, IntKind.max, IntKind.signed, IntKind.bits, Bool.and_eq_true, decide_eq_true_eq] at h
  simp at h
  omega
theorem rd_at (l : List Int) (i : Nat) (h : i < l.length) : rd l (i : Int) = l[i] := by
  unfold rd
  rw [Int.toNat_natCast, List.getD_eq_getElem?_getD, List.getElem?_eq_getElem h]
  rfl
theorem drop_at (l : List Int) (i : Nat) (h : i < l.length) : l.drop i = rd l (i : Int) :: l.drop (i + 1) := by
  rw [rd_at l i h, List.drop_eq_getElem_cons h]
theorem bind_some_ {α β : Type} (a : α) (f : α → Option β) : (some a).bind f = f a := rfl
theorem ite_tt (b r : Bool) : (if b = true then some r else some false) = some (b && r) := by cases b <;> rfl
theorem ite_ff (p : Prop) [Decidable p] (r : Bool) : (if p then some false else some r) = some (!decide p && r) := by by_cases h : p <;> simp [h]
theorem ite_pp (p : Prop) [Decidable p] (r : Bool) : (if p then some r else some false) = some (decide p && r) := by by_cases h : p <;> simp [h]
theorem not_ge_dec (a b : Int) : (!decide (a ≥ b)) = decide (a < b) := by by_cases h : a < b <;> simp [h] <;> omega

/- What is asked of a plan. -/
/- What a plan costs, plainly. -/
def costGo (x y : Int) : List S49 → Int → Int
  | [], s => s
  | t :: l, s => costGo x y l (wrap64 (s + wrap64 (x + wrap64 (y * (t.f1.length : Int)))))

def spec_l00In.f (a0 : Int) (a1 : Int) (a2 : Int) : Option (Bool) := if a0 ≥ a1 then (some (decide (a0 ≤ a2))) else (some false)

mutual
def spec_l08Is.j0 : Nat → Bool → List (S34) → List Int → List Int → Int → Int → Option (Bool)
 | 0, _, _, _, _, _, _ => none
 | k + 1, x39, x1000, x1001, x1002, x1003, x1004 => if x39 = true then (some false) else (spec_l08Is.l0 k 0 x1000 x1001 x1002 x1003 x1004)
def spec_l08Is.l0 : Nat → Int → List (S34) → List Int → List Int → Int → Int → Option (Bool)
 | 0, _, _, _, _, _, _ => none
 | k + 1, x4, x1000, x1001, x1002, x1003, x1004 => if x4 < (x1000.length : Int) then (if 0 ≤ x4 then ((spec_l00In.f ((rd_T34 x1000 x4).f0) 1 100).bind fun t515 => (if t515 = true then ((spec_l00In.f ((rd_T34 x1000 x4).f1) 1 1000000).bind fun t517 => (if t517 = true then (spec_l08Is.l0 k (wrap64 (x4 + 1)) x1000 x1001 x1002 x1003 x1004) else (some false))) else (some false))) else (none)) else (spec_l08Is.l1 k 0 x1000 x1001 x1002 x1003 x1004)
def spec_l08Is.l1 : Nat → Int → List (S34) → List Int → List Int → Int → Int → Option (Bool)
 | 0, _, _, _, _, _, _ => none
 | k + 1, x5, x1000, x1001, x1002, x1003, x1004 => if x5 < (x1001.length : Int) then (if 0 ≤ x5 then ((spec_l00In.f (rd x1001 x5) 0 100).bind fun t519 => (if t519 = true then (spec_l08Is.l1 k (wrap64 (x5 + 1)) x1000 x1001 x1002 x1003 x1004) else (some false))) else (none)) else ((spec_l00In.f x1003 0 10000).bind fun t520 => (if t520 = true then ((spec_l00In.f x1004 0 10000).bind fun t521 => (some t521)) else (some false)))
end
def spec_l00Has.l0 : Nat → List Int → Int → Int → Option (Bool)
 | 0, _, _, _ => none
 | k + 1, x0, x1, x5 => if x5 < (x0.length : Int) then (if 0 ≤ x5 then (if (rd x0 x5) = x1 then (some true) else (spec_l00Has.l0 k x0 x1 (wrap64 (x5 + 1)))) else (none)) else (some false)
def spec_l00Has.f (k : Nat) (l0 : List Int) (a1 : Int) : Option (Bool) := spec_l00Has.l0 k l0 a1 0

def spec_l08Changes.l0 : Nat → List (S49) → Int → Int → Int → Option (Bool)
 | 0, _, _, _, _ => none
 | k + 1, x0, x1, x2, x7 => if x7 < (x0.length : Int) then (if 0 ≤ x7 then (if ((rd_T49 x0 x7).f0) = x2 then ((spec_l00Has.f k ((rd_T49 x0 x7).f1) x1).bind fun t537 => (if t537 = true then (some true) else (spec_l08Changes.l0 k x0 x1 x2 (wrap64 (x7 + 1))))) else (spec_l08Changes.l0 k x0 x1 x2 (wrap64 (x7 + 1)))) else (none)) else (some false)
def spec_l08Changes.f (k : Nat) (l0 : List (S49)) (a1 : Int) (a2 : Int) : Option (Bool) := spec_l08Changes.l0 k l0 a1 a2 0
def spec_l08Worn.l0 : Nat → List (S49) → Int → Int → Int → Int → List (S34) → List Int → List Int → Int → Int → Option (Int)
 | 0, _, _, _, _, _, _, _, _, _, _ => none
 | k + 1, x1, x2, x3, x9, x10, x1000, x1001, x1002, x1003, x1004 => if x10 ≤ x3 then ((spec_l08Changes.f k x1 x2 x10).bind fun t538 => (if t538 = true then (if x10 < x3 then (if 0 ≤ x2 then (if x2 < (x1000.length : Int) then (if 0 ≤ x10 then (if x10 < (x1001.length : Int) then (spec_l08Worn.l0 k x1 x2 x3 (wrap64 (0 + (wrap64 (((rd_T34 x1000 x2).f0) * (rd x1001 x10))))) (wrap64 (x10 + 1)) x1000 x1001 x1002 x1003 x1004) else (none)) else (none)) else (none)) else (none)) else (spec_l08Worn.l0 k x1 x2 x3 0 (wrap64 (x10 + 1)) x1000 x1001 x1002 x1003 x1004)) else (if x10 < x3 then (if 0 ≤ x2 then (if x2 < (x1000.length : Int) then (if 0 ≤ x10 then (if x10 < (x1001.length : Int) then (spec_l08Worn.l0 k x1 x2 x3 (wrap64 (x9 + (wrap64 (((rd_T34 x1000 x2).f0) * (rd x1001 x10))))) (wrap64 (x10 + 1)) x1000 x1001 x1002 x1003 x1004) else (none)) else (none)) else (none)) else (none)) else (spec_l08Worn.l0 k x1 x2 x3 x9 (wrap64 (x10 + 1)) x1000 x1001 x1002 x1003 x1004)))) else (some x9)
def spec_l08Worn.f (k : Nat) (l0_0 : List (S34)) (l0_1 : List Int) (l0_2 : List Int) (a0_3 : Int) (a0_4 : Int) (l1 : List (S49)) (a2 : Int) (a3 : Int) : Option (Int) := spec_l08Worn.l0 k l1 a2 a3 0 0 l0_0 l0_1 l0_2 a0_3 a0_4
/- Two lists of numbers are compared. -/
/- A list of numbers is copied. -/







mutual
def spec_WornAt.j0 : Nat → List (S49) → Int → Bool → List (S34) → List Int → List Int → Int → Int → Option (List Int × Bool)
 | 0, _, _, _, _, _, _, _, _ => none
 | k + 1, x1, x2, x24, x544000, x544001, x544002, x544003, x544004 => if x24 = true then (some (([] : List Int), false)) else (spec_WornAt.l0 k x1 x2 (([] : List Int)) 0 x544000 x544001 x544002 x544003 x544004)
def spec_WornAt.l0 : Nat → List (S49) → Int → List Int → Int → List (S34) → List Int → List Int → Int → Int → Option (List Int × Bool)
 | 0, _, _, _, _, _, _, _, _, _ => none
 | k + 1, x1, x2, x8, x9, x544000, x544001, x544002, x544003, x544004 => if x9 < (x544000.length : Int) then ((spec_l08Worn.f k x544000 x544001 x544002 x544003 x544004 x1 x9 x2).bind fun t550 => (if x8.length < 17592186044416 then (spec_WornAt.l0 k x1 x2 (x8 ++ [t550]) (wrap64 (x9 + 1)) x544000 x544001 x544002 x544003 x544004) else (none))) else (some (x8, true))
end
/- A list of the law's own structs that hold lists is copied into the program's, measured, and equal to itself. -/
theorem rdStop_at (l : List S49) (i : Nat) (h : i < l.length) : rd_T49 l (i : Int) = l[i] := by
  unfold rd_T49
  rw [Int.toNat_natCast, List.getD_eq_getElem?_getD, List.getElem?_eq_getElem h]
  rfl
def shortS (l : List S49) : Prop := l.length ≤ 1048576 ∧ ∀ s ∈ l, s.f1.length ≤ 1048576
theorem shortS_at {l : List S49} (h : shortS l) (i : Nat) (hi : i < l.length) : (rd_T49 l (i : Int)).f1.length ≤ 1048576 := by
  rw [rdStop_at l i hi]
  exact h.2 _ (List.getElem_mem hi)
/- What a plan costs, as the program reckons it. -/
theorem implCost_l0 (cs : List S34) (fc st : List Int) (x y : Int) (p : List S49) (hb : p.length ≤ 1048576) : ∀ (d k i : Nat) (s : Int), i + d = p.length → d < k → impl_Head_cost.l0 k s p p.length i cs fc st x y = some (costGo x y (p.drop i) s) := by
  intro d
  induction d with
  | zero =>
    intro k i s hi hk
    obtain ⟨k, rfl⟩ : ∃ m, k = m + 1 := ⟨k - 1, by omega⟩
    simp only [impl_Head_cost.l0]
    rw [if_neg (by omega), List.drop_of_length_le (by omega)]
    rfl
  | succ d ih =>
    intro k i s hi hk
    obtain ⟨k, rfl⟩ : ∃ m, k = m + 1 := ⟨k - 1, by omega⟩
    have hlt : i < p.length := by omega
    have hd : p.drop i = rd_T49 p (i : Int) :: p.drop (i + 1) := by rw [rdStop_at p i hlt, List.drop_eq_getElem_cons hlt]
    simp only [impl_Head_cost.l0]
    rw [if_pos (by omega), if_pos (by omega), if_pos (by omega), w64s i (by omega), ih k (i + 1) _ (by omega) (by omega), hd]
    rfl

/- Numbers in a range, as the program asks it of a list. -/
theorem areWithin2 (a b lo hi : Int) : impl_areWithin.all lo hi [a, b] = (decide (lo ≤ a ∧ a ≤ hi) && decide (lo ≤ b ∧ b ≤ hi)) := by
  simp [impl_areWithin.all]

/- A number lies in a range, as the program asks it. -/
theorem within_is (a b c : Int) : impl_within.f a b c = some (decide (b ≤ a ∧ a ≤ c)) := by
  unfold impl_within.f
  by_cases h : b ≤ a <;> simp [h]

/- Numbers in a range that rise, as the program asks it. -/
theorem implRises_loop (l : List Int) (n : Int) (hb : l.length ≤ 9223372036854775806) : ∀ (d k i : Nat), i + d = l.length → d < k → impl_isSet.l0 k l n l l.length i = some (upTo (riseOk l 0 (wrap64 (n - 1))) d i) := by
  intro d
  induction d with
  | zero =>
    intro k i hi' hk
    obtain ⟨k, rfl⟩ : ∃ m, k = m + 1 := ⟨k - 1, by omega⟩
    simp only [impl_isSet.l0]
    rw [if_neg (by omega)]
    rfl
  | succ d ih =>
    intro k i hi' hk
    obtain ⟨k, rfl⟩ : ∃ m, k = m + 1 := ⟨k - 1, by omega⟩
    have hz := ih k (i + 1) (by omega) (by omega)
    simp only [impl_isSet.l0, within_is, bind_some_, upTo, riseOk]
    rw [if_pos (by omega), if_pos (by omega), if_pos (by omega), w64s i (by omega), hz]
    by_cases h : i = 0
    · rw [if_neg (show ¬ (i : Int) > 0 by omega), ite_tt, decide_eq_true h, Bool.true_or, Bool.and_true]
    · have e : wrap64 ((i : Int) - 1) = ((i - 1 : Nat) : Int) := by rw [w64 _ (by omega) (by omega)]; omega
      rw [if_pos (show (i : Int) > 0 by omega), e, if_pos (show (0 : Int) ≤ ((i - 1 : Nat) : Int) by omega), if_pos (show ((i - 1 : Nat) : Int) < (l.length : Int) by omega), ite_ff, ite_tt, not_ge_dec, decide_eq_false h, Bool.false_or, Bool.and_assoc]
theorem implRises_is (k : Nat) (l : List Int) (n : Int) (hb : l.length ≤ 9223372036854775806) (hk : l.length < k) : impl_isSet.f k l n = some (rises l 0 (wrap64 (n - 1))) := by
  unfold impl_isSet.f rises
  exact implRises_loop l n hb l.length k 0 (by omega) hk

/- What the program asks of a head. -/
theorem implHead_l0 (cs : List S34) (fc st : List Int) (x y : Int) (hc : cs.length ≤ 1048576) (hb : fc.length ≤ 1048576) (hs : st.length ≤ 1048576) : ∀ (d k i : Nat), i + d = cs.length → d + st.length + 1 < k → impl_ValidHead.l0 k cs cs.length i cs fc st x y = some (upTo (cuOk cs) d i && (decide (1 ≤ (cs.length : Int) ∧ (cs.length : Int) ≤ 5) && (decide ((fc.length : Int) ≤ 60) && (impl_areWithin.all 0 100 fc && (decide ((st.length : Int) ≤ 8) && (rises st 0 (wrap64 ((fc.length : Int) - 1)) && (decide (0 ≤ x ∧ x ≤ 10000) && decide (0 ≤ y ∧ y ≤ 10000)))))))) := by
  intro d
  induction d with
  | zero =>
    intro k i hi' hk
    obtain ⟨k, rfl⟩ : ∃ m, k = m + 1 := ⟨k - 1, by omega⟩
    simp only [impl_ValidHead.l0, within_is, impl_areWithin.f, bind_some_, areWithin2]
    rw [if_neg (by omega), implRises_is k st _ (by omega) (by omega)]
    simp only [bind_some_, ite_tt, ite_pp, upTo, Bool.true_and, Bool.decide_eq_true]
  | succ d ih =>
    intro k i hi' hk
    obtain ⟨k, rfl⟩ : ∃ m, k = m + 1 := ⟨k - 1, by omega⟩
    have hz := ih k (i + 1) (by omega) (by omega)
    simp only [impl_ValidHead.l0, within_is, bind_some_]
    rw [if_pos (by omega), if_pos (by omega), if_pos (by omega), w64s i (by omega), hz, ite_tt, ite_tt]
    simp only [upTo, cuOk, Bool.and_assoc]
theorem implHead_is (k : Nat) (cs : List S34) (fc st : List Int) (x y : Int) (hc : cs.length ≤ 1048576) (hb : fc.length ≤ 1048576) (hs : st.length ≤ 1048576) (hk : cs.length + st.length + 3 < k) : impl_ValidHead.f k cs fc st x y = some (hdOk cs fc st x y) := by
  unfold impl_ValidHead.f
  have h0 := implHead_l0 cs fc st x y hc hb hs cs.length k 0 (by omega) (by omega)
  rw [show ((0 : Nat) : Int) = 0 by rfl] at h0
  rw [h0]
  unfold hdOk
  congr 1
  ac_rfl

/- How far a cutter lasts, as the program reckons it. -/
theorem implReach_l0 (cs : List S34) (fc st : List Int) (x y ax lim : Int) (hb : fc.length ≤ 9223372036854775806) : ∀ (d k i : Nat) (s : Int), i + d = fc.length → d < k → impl_Head_reach.l0 k i s cs fc st x y ax lim = some ((reachGo ax lim fc d i s : Nat) : Int) := by
  intro d
  induction d with
  | zero =>
    intro k i s hi hk
    obtain ⟨k, rfl⟩ : ∃ m, k = m + 1 := ⟨k - 1, by omega⟩
    simp only [impl_Head_reach.l0, reachGo]
    rw [if_neg (by omega)]
  | succ d ih =>
    intro k i s hi hk
    obtain ⟨k, rfl⟩ : ∃ m, k = m + 1 := ⟨k - 1, by omega⟩
    simp only [impl_Head_reach.l0, reachGo]
    rw [if_pos (by omega), if_pos (by omega), w64s i (by omega), ih k (i + 1) _ (by omega) (by omega)]
    split <;> rfl
theorem implReach_is (k : Nat) (cs : List S34) (fc st : List Int) (x y : Int) (a b : Nat) (s : Int) (ha : a < cs.length) (hb : fc.length ≤ 9223372036854775806) (hbl : b ≤ fc.length) (hk : fc.length < k) : impl_Head_reach.f k cs fc st x y a b s = some ((reachOf cs fc a b s : Nat) : Int) := by
  unfold impl_Head_reach.f reachOf
  rw [if_pos (by omega), if_pos (by omega)]
  exact implReach_l0 cs fc st x y _ _ hb (fc.length - b) k b s (by omega) (by omega)

/- How worn the cutters are, plainly. -/
theorem rises_mem {l : List Int} {lo hi : Int} (h : rises l lo hi = true) : ∀ c ∈ l, lo ≤ c ∧ c ≤ hi := by
  intro c hc
  obtain ⟨i, hi, rfl⟩ := List.getElem_of_mem hc
  unfold rises at h
  have h2 := (upTo_iff _ _ _).mp h i (by omega) (by omega)
  simp only [riseOk, Bool.and_eq_true, decide_eq_true_eq] at h2
  rw [rd_at l i hi] at h2
  exact h2.1
theorem hd_cut {cs : List S34} {fc st : List Int} {x y : Int} (h : hdOk cs fc st x y = true) (i : Nat) (hi : i < cs.length) : (1 ≤ (rd_T34 cs i).f0 ∧ (rd_T34 cs i).f0 ≤ 100) ∧ (1 ≤ (rd_T34 cs i).f1 ∧ (rd_T34 cs i).f1 ≤ 1000000) := by
  unfold hdOk at h
  simp only [Bool.and_eq_true, decide_eq_true_eq] at h
  have h2 := (upTo_iff _ _ _).mp h.2.2.2.2.1 i (by omega) (by omega)
  simpa only [cuOk, Bool.and_eq_true, decide_eq_true_eq] using h2
theorem hd_hard {cs : List S34} {fc st : List Int} {x y : Int} (h : hdOk cs fc st x y = true) (i : Nat) (hi : i < fc.length) : 0 ≤ rd fc (i : Int) ∧ rd fc (i : Int) ≤ 100 := by
  unfold hdOk impl_areWithin.all at h
  simp only [Bool.and_eq_true, decide_eq_true_eq, List.all_eq_true] at h
  rw [rd_at fc i hi]
  exact h.2.2.2.2.2.1 _ (List.getElem_mem hi)
theorem mul100 (a b : Int) (ha : 0 ≤ a ∧ a ≤ 100) (hb : 0 ≤ b ∧ b ≤ 100) : 0 ≤ a * b ∧ a * b ≤ 10000 := by
  constructor
  · exact Int.mul_nonneg ha.1 hb.1
  · have h1 : a * b ≤ 100 * b := Int.mul_le_mul_of_nonneg_right ha.2 hb.1
    omega
def chg (p : List S49) (c n : Int) : Bool := p.any fun s => decide (s.f0 = n) && decide (c ∈ s.f1)
def wearStep (cs : List S34) (fc : List Int) (c n : Nat) : Int := (rd_T34 cs (c : Int)).f0 * rd fc (n : Int)
def wearP (cs : List S34) (fc : List Int) (p : List S49) (c : Nat) : Nat → Int
  | 0 => 0
  | n + 1 => if chg p c ((n + 1 : Nat) : Int) = true then 0 else wearP cs fc p c n + wearStep cs fc c n
def wearIn (cs : List S34) (fc : List Int) (p : List S49) (c : Nat) : Nat → Int
  | 0 => 0
  | n + 1 => wearP cs fc p c n + wearStep cs fc c n
theorem wearP_eq (cs : List S34) (fc : List Int) (p : List S49) (c n : Nat) : wearP cs fc p c n = if chg p c (n : Int) = true then 0 else wearIn cs fc p c n := by
  cases n with
  | zero => simp [wearP, wearIn]
  | succ n => rfl
theorem step_in {cs : List S34} {fc st : List Int} {x y : Int} (h : hdOk cs fc st x y = true) (c n : Nat) (hc : c < cs.length) (hn : n < fc.length) : 0 ≤ wearStep cs fc c n ∧ wearStep cs fc c n ≤ 10000 := by
  have h1 := (hd_cut h c hc).1
  have h2 := hd_hard h n hn
  exact mul100 _ _ ⟨by omega, h1.2⟩ h2
theorem wearP_in {cs : List S34} {fc st : List Int} {x y : Int} (p : List S49) (h : hdOk cs fc st x y = true) (c : Nat) (hc : c < cs.length) : ∀ n : Nat, n ≤ fc.length → 0 ≤ wearP cs fc p c n ∧ wearP cs fc p c n ≤ 10000 * n
  | 0, _ => by simp [wearP]
  | n + 1, hn => by
    have h1 := wearP_in p h c hc n (by omega)
    have h2 := step_in h c n hc (by omega)
    simp only [wearP]
    split <;> omega
def planIn (n : Nat) (p : List S49) : Prop := shortS p ∧ ∀ s ∈ p, ∀ c ∈ s.f1, 0 ≤ c ∧ c < n
def failC (cs : List S34) (fc : List Int) (p : List S49) (n : Nat) : Nat → Nat → Option Nat
  | 0, _ => none
  | d + 1, c => if wearP cs fc p c n + wearStep cs fc c n > (rd_T34 cs (c : Int)).f1 then some c else failC cs fc p n d (c + 1)
def failN (cs : List S34) (fc : List Int) (p : List S49) : Nat → Nat → Option (Nat × Nat)
  | 0, _ => none
  | d + 1, n => match failC cs fc p n cs.length 0 with
    | some c => some (c, n)
    | none => failN cs fc p d (n + 1)
def failP (cs : List S34) (fc : List Int) (p : List S49) : Option (Nat × Nat) := failN cs fc p fc.length 0

/- A list that is told by what stands at each place. -/
def wl (n : Nat) (f : Nat → Int) : List Int := (List.range n).map f
theorem wl_len (n : Nat) (f : Nat → Int) : (wl n f).length = n := by simp [wl]
theorem wl_get (n : Nat) (f : Nat → Int) (i : Nat) (h : i < (wl n f).length) : (wl n f)[i] = f i := by simp [wl]
theorem wl_rd (n : Nat) (f : Nat → Int) (i : Nat) (h : i < n) : rd (wl n f) (i : Int) = f i := by
  rw [rd_at _ i (by rw [wl_len]; exact h), wl_get]
theorem wl_congr (n : Nat) (f g : Nat → Int) (h : ∀ c, c < n → f c = g c) : wl n f = wl n g := by
  unfold wl
  apply List.map_congr_left
  intro c hc
  exact h c (List.mem_range.mp hc)
theorem wl_set (n : Nat) (f : Nat → Int) (i : Nat) (v : Int) : (wl n f).set i v = wl n (fun c => if c = i then v else f c) := by
  apply List.ext_getElem
  · rw [List.length_set, wl_len, wl_len]
  · intro j h1 h2
    rw [List.getElem_set, wl_get, wl_get]
    by_cases e : i = j
    · rw [if_pos e]
      show v = if j = i then v else f j
      rw [if_pos e.symm]
    · rw [if_neg e]
      show f j = if j = i then v else f j
      rw [if_neg (fun q : j = i => e q.symm)]
theorem wl_zero (n : Nat) : List.replicate n (0 : Int) = wl n (fun _ => 0) := by
  apply List.ext_getElem
  · rw [List.length_replicate, wl_len]
  · intro j h1 h2
    rw [wl_get, List.getElem_replicate]
/- How worn the cutters are, as the program reckons it. -/
theorem implWorn_l2 (cs : List S34) (fc st : List Int) (x y : Int) (p pl : List S49) (R n m i : Int) (ch : List Int) (hl : ch.length ≤ 1048576) (hch : ∀ c ∈ ch, 0 ≤ c ∧ c < cs.length) (F : Nat → Int) (out : Option (List Int)) (B : Nat)
    (hcont : ∀ k, B ≤ k → impl_Head_worn.l1 k p R (wl cs.length F) n pl m (wrap64 (i + 1)) cs fc st x y = out) : ∀ (d k j : Nat) (f : Nat → Int), j + d = ch.length → B + d < k → (∀ c : Nat, (if (c : Int) ∈ ch.drop j then 0 else f c) = F c) → impl_Head_worn.l2 k p R (wl cs.length f) n pl m i ch ch.length j cs fc st x y = out := by
  intro d
  induction d with
  | zero =>
    intro k j f hj hk hf
    obtain ⟨k, rfl⟩ : ∃ m, k = m + 1 := ⟨k - 1, by omega⟩
    simp only [impl_Head_worn.l2]
    rw [if_neg (by omega)]
    have e : f = F := by
      funext c
      have := hf c
      rw [List.drop_of_length_le (by omega)] at this
      simpa using this
    rw [e]
    exact hcont k (by omega)
  | succ d ih =>
    intro k j f hj hk hf
    obtain ⟨k, rfl⟩ : ∃ m, k = m + 1 := ⟨k - 1, by omega⟩
    have hc := hch _ (List.getElem_mem (show j < ch.length by omega))
    rw [← rd_at ch j (by omega)] at hc
    obtain ⟨q, hq⟩ : ∃ q : Nat, rd ch (j : Int) = q := ⟨(rd ch (j : Int)).toNat, by omega⟩
    simp only [impl_Head_worn.l2]
    rw [if_pos (by omega), if_pos (by omega), if_pos (by omega), if_pos hc.1, if_pos (by rw [wl_len]; exact hc.2), hq, Int.toNat_natCast, wl_set, w64s j (by omega)]
    refine ih k (j + 1) _ (by omega) (by omega) ?_
    intro c
    rw [← hf c, drop_at ch j (by omega), hq]
    by_cases h1 : c = q
    · subst h1
      simp
    · have h2 : ¬ (c : Int) = (q : Int) := by omega
      simp [h1, h2]
theorem implWorn_l1 (M : Nat) (hM : 1048580 ≤ M) (cs : List S34) (fc st : List Int) (x y : Int) (p : List S49) (R n : Int) (hp : planIn cs.length p) (F : Nat → Int) (out : Option (List Int)) (B : Nat)
    (hcont : ∀ k, B ≤ k → impl_Head_worn.l3 k p R (wl cs.length F) n cs cs.length 0 cs fc st x y = out) : ∀ (d k i : Nat) (f : Nat → Int), i + d = p.length → B + d * M < k → (∀ c : Nat, (if chg (p.drop i) c n = true then 0 else f c) = F c) → impl_Head_worn.l1 k p R (wl cs.length f) n p p.length i cs fc st x y = out := by
  intro d
  have hb := hp.1.1
  induction d with
  | zero =>
    intro k i f hj hk hf
    obtain ⟨k, rfl⟩ : ∃ m, k = m + 1 := ⟨k - 1, by omega⟩
    simp only [impl_Head_worn.l1]
    rw [if_neg (by omega)]
    have e : f = F := by
      funext c
      have := hf c
      rw [List.drop_of_length_le (by omega)] at this
      simpa [chg] using this
    rw [e]
    exact hcont k (by omega)
  | succ d ih =>
    intro k i f hj hk hf
    obtain ⟨k, rfl⟩ : ∃ m, k = m + 1 := ⟨k - 1, by omega⟩
    have hlt : i < p.length := by omega
    have hdm : (d + 1) * M = d * M + M := Nat.succ_mul d M
    have hs := shortS_at hp.1 i hlt
    have hm := hp.2 _ (List.getElem_mem hlt)
    rw [← rdStop_at p i hlt] at hm
    have hd : p.drop i = rd_T49 p (i : Int) :: p.drop (i + 1) := by rw [rdStop_at p i hlt, List.drop_eq_getElem_cons hlt]
    simp only [impl_Head_worn.l1]
    rw [if_pos (by omega), if_pos (by omega), if_pos (by omega)]
    by_cases h1 : (rd_T49 p (i : Int)).f0 = n
    · rw [if_pos h1]
      refine implWorn_l2 cs fc st x y p p R n p.length i _ hs hm (fun c => if (c : Int) ∈ (rd_T49 p (i : Int)).f1 then 0 else f c) out (B + d * M + 1) ?_ (rd_T49 p (i : Int)).f1.length k 0 f (by omega) (by omega) ?_
      · intro k2 hk2
        rw [w64s i (by omega)]
        refine ih k2 (i + 1) _ (by omega) (by omega) ?_
        intro c
        rw [← hf c, hd]
        simp only [chg, List.any_cons]
        by_cases h2 : (c : Int) ∈ (rd_T49 p (i : Int)).f1
        · simp [h1, h2]
        · simp [h2]
      · intro c
        rw [List.drop_zero]
    · rw [if_neg h1, w64s i (by omega)]
      refine ih k (i + 1) _ (by omega) (by omega) ?_
      intro c
      rw [← hf c, hd]
      simp [chg, h1]
theorem implWorn_l3a (cs : List S34) (fc st : List Int) (x y : Int) (hh : hdOk cs fc st x y = true) (p : List S49) (R n : Nat) (hn : n < R) (hR : R ≤ fc.length) (F : Nat → Int) (out : Option (List Int)) (B : Nat)
    (hcont : ∀ k, B ≤ k → impl_Head_worn.l0 k p R (wl cs.length F) ((n + 1 : Nat) : Int) cs fc st x y = out) : ∀ (d k j : Nat) (f : Nat → Int), j + d = cs.length → B + d < k → (∀ c : Nat, j ≤ c → c < cs.length → 0 ≤ f c ∧ f c ≤ 10000000) → (∀ c : Nat, c < cs.length → (if j ≤ c then f c + wearStep cs fc c n else f c) = F c) → impl_Head_worn.l3 k p R (wl cs.length f) n cs cs.length j cs fc st x y = out := by
  intro d
  have hin := hdOk_in hh
  induction d with
  | zero =>
    intro k j f hj hk hf hF
    obtain ⟨k, rfl⟩ : ∃ m, k = m + 1 := ⟨k - 1, by omega⟩
    simp only [impl_Head_worn.l3]
    rw [if_neg (by omega), w64s n (by omega), wl_congr cs.length f F (fun c hc => by have := hF c hc; rwa [if_neg (by omega)] at this)]
    exact hcont k (by omega)
  | succ d ih =>
    intro k j f hj hk hf hF
    obtain ⟨k, rfl⟩ : ∃ m, k = m + 1 := ⟨k - 1, by omega⟩
    have h1 := hf j (Nat.le_refl _) (by omega)
    have h2 := step_in hh j n (by omega) (by omega)
    have e1 : wrap64 ((rd_T34 cs (j : Int)).f0 * rd fc (n : Int)) = wearStep cs fc j n := by
      unfold wearStep at h2 ⊢
      rw [w64 _ (by omega) (by omega)]
    simp only [impl_Head_worn.l3]
    rw [if_pos (by omega), if_pos (by omega), if_pos (by omega), if_pos (by omega), if_pos (by rw [wl_len]; omega), if_pos (by omega), if_pos (by omega), e1, wl_rd _ _ j (by omega), w64 (f j + wearStep cs fc j n) (by omega) (by omega), Int.toNat_natCast, wl_set, w64s j (by omega)]
    refine ih k (j + 1) _ (by omega) (by omega) ?_ ?_
    · intro c h3 h4
      rw [if_neg (by omega)]
      exact hf c (by omega) h4
    · intro c h3
      rw [← hF c h3]
      by_cases h4 : c = j
      · subst h4
        rw [if_neg (by omega), if_pos rfl, if_pos (Nat.le_refl _)]
      · by_cases h5 : j ≤ c
        · rw [if_pos (by omega), if_neg h4, if_pos h5]
        · rw [if_neg (by omega), if_neg h4, if_neg h5]
theorem implWorn_l3b (cs : List S34) (fc st : List Int) (x y : Int) (p : List S49) (R : Nat) (hR : R ≤ 1048576) (hc : cs.length ≤ 1048576) (o : List Int) (out : Option (List Int)) (B : Nat)
    (hcont : ∀ k, B ≤ k → impl_Head_worn.l0 k p R o ((R + 1 : Nat) : Int) cs fc st x y = out) : ∀ (d k j : Nat), j + d = cs.length → B + d < k → impl_Head_worn.l3 k p R o R cs cs.length j cs fc st x y = out := by
  intro d
  induction d with
  | zero =>
    intro k j hj hk
    obtain ⟨k, rfl⟩ : ∃ m, k = m + 1 := ⟨k - 1, by omega⟩
    simp only [impl_Head_worn.l3]
    rw [if_neg (by omega), w64s R (by omega)]
    exact hcont k (by omega)
  | succ d ih =>
    intro k j hj hk
    obtain ⟨k, rfl⟩ : ∃ m, k = m + 1 := ⟨k - 1, by omega⟩
    simp only [impl_Head_worn.l3]
    rw [if_pos (by omega), if_pos (by omega), if_pos (by omega), if_neg (by omega), w64s j (by omega)]
    exact ih k (j + 1) (by omega) (by omega)
theorem implWorn_l0 (M C : Nat) (hM : 1048580 ≤ M) (cs : List S34) (fc st : List Int) (x y : Int) (hh : hdOk cs fc st x y = true) (p : List S49) (hp : planIn cs.length p) (R : Nat) (hR : R ≤ fc.length) (hC : p.length * M + 1000 ≤ C) : ∀ (e k n : Nat), n + e = R → (e + 1) * C < k → impl_Head_worn.l0 k p R (wl cs.length (fun c => wearIn cs fc p c n)) n cs fc st x y = some (wl cs.length (fun c => wearP cs fc p c R)) := by
  intro e
  have hin := hdOk_in hh
  have hb := hp.1.1
  induction e with
  | zero =>
    intro k n hn hk
    rw [Nat.zero_add, Nat.one_mul] at hk
    have hn2 : n = R := by omega
    subst hn2
    obtain ⟨k, rfl⟩ : ∃ m, k = m + 1 := ⟨k - 1, by omega⟩
    simp only [impl_Head_worn.l0]
    rw [if_pos (Int.le_refl _)]
    refine implWorn_l1 M hM cs fc st x y p n n hp (fun c => wearP cs fc p c n) _ 100 ?_ p.length k 0 _ (by omega) (by omega) ?_
    · intro k2 hk2
      refine implWorn_l3b cs fc st x y p n (by omega) (by omega) _ _ 1 ?_ cs.length k2 0 (by omega) (by omega)
      intro k3 hk3
      obtain ⟨k3, rfl⟩ : ∃ m, k3 = m + 1 := ⟨k3 - 1, by omega⟩
      simp only [impl_Head_worn.l0]
      rw [if_neg (by omega)]
    · intro c
      rw [List.drop_zero, wearP_eq]
  | succ e ih =>
    intro k n hn hk
    have hec : (e + 1 + 1) * C = (e + 1) * C + C := Nat.succ_mul (e + 1) C
    obtain ⟨k, rfl⟩ : ∃ m, k = m + 1 := ⟨k - 1, by omega⟩
    simp only [impl_Head_worn.l0]
    rw [if_pos (by omega)]
    refine implWorn_l1 M hM cs fc st x y p R n hp (fun c => wearP cs fc p c n) _ ((e + 1) * C + 100) ?_ p.length k 0 _ (by omega) (by omega) ?_
    · intro k2 hk2
      refine implWorn_l3a cs fc st x y hh p R n (by omega) hR (fun c => wearIn cs fc p c (n + 1)) _ ((e + 1) * C + 1) ?_ cs.length k2 0 _ (by omega) (by omega) ?_ ?_
      · intro k3 hk3
        exact ih k3 (n + 1) (by omega) (by omega)
      · intro c _ hc
        have := wearP_in p hh c hc n (by omega)
        omega
      · intro c hc
        rw [if_pos (Nat.zero_le _)]
        rfl
    · intro c
      rw [List.drop_zero, wearP_eq]
def wearOk (n : Nat) : Prop := 61 * 1099515900000 < n
theorem implWorn_is (wearK : Nat) (hW : wearOk wearK) (k : Nat) (cs : List S34) (fc st : List Int) (x y : Int) (hh : hdOk cs fc st x y = true) (p : List S49) (hp : planIn cs.length p) (R : Nat) (hR : R ≤ fc.length) (hk : wearK ≤ k) : impl_Head_worn.f k cs fc st x y p R = some (wl cs.length (fun c => wearP cs fc p c R)) := by
  have hin := hdOk_in hh
  have h1 : p.length * 1048580 ≤ 1048576 * 1048580 := Nat.mul_le_mul_right _ hp.1.1
  have h2 : (1048576 * 1048580 + 1000 : Nat) ≤ 1099515900000 := by decide
  have h3 : (R + 1) * 1099515900000 ≤ 61 * 1099515900000 := Nat.mul_le_mul_right _ (by omega)
  have h4 : 61 * 1099515900000 < wearK := hW
  unfold impl_Head_worn.f
  rw [if_pos (by omega), if_pos (by omega), Int.toNat_natCast, wl_zero]
  exact implWorn_l0 1048580 1099515900000 (Nat.le_refl _) cs fc st x y hh p hp R hR (Nat.le_trans (Nat.add_le_add_right h1 1000) h2) R k 0 (by omega) (Nat.lt_of_le_of_lt h3 (Nat.lt_of_lt_of_le h4 hk))
theorem implFail_l1 (cs : List S34) (fc st : List Int) (x y : Int) (hh : hdOk cs fc st x y = true) (p : List S49) (n : Nat) (hn : n < fc.length) (m : Int) (out : Option (Int × Int)) (B : Nat)
    (hcont : failC cs fc p n cs.length 0 = none → ∀ k, B ≤ k → impl_Head_failure.l0 k p fc m ((n + 1 : Nat) : Int) cs fc st x y = out) (hfound : ∀ c, failC cs fc p n cs.length 0 = some c → out = some ((c : Int), (n : Int))) : ∀ (d k j : Nat), j + d = cs.length → B + d < k → failC cs fc p n d j = failC cs fc p n cs.length 0 → impl_Head_failure.l1 k p n (rd fc (n : Int)) (wl cs.length (fun c => wearP cs fc p c n)) fc m n cs cs.length j cs fc st x y = out := by
  intro d
  have hin := hdOk_in hh
  induction d with
  | zero =>
    intro k j hj hk he
    obtain ⟨k, rfl⟩ : ∃ m, k = m + 1 := ⟨k - 1, by omega⟩
    simp only [impl_Head_failure.l1]
    rw [if_neg (by omega), w64s n (by omega)]
    exact hcont (by rw [← he]; rfl) k (by omega)
  | succ d ih =>
    intro k j hj hk he
    obtain ⟨k, rfl⟩ : ∃ m, k = m + 1 := ⟨k - 1, by omega⟩
    have h1 := wearP_in p hh j (by omega) n (by omega)
    have h2 := step_in hh j n (by omega) hn
    have e1 : wrap64 ((rd_T34 cs (j : Int)).f0 * rd fc (n : Int)) = wearStep cs fc j n := by
      unfold wearStep at h2 ⊢
      rw [w64 _ (by omega) (by omega)]
    simp only [impl_Head_failure.l1]
    rw [if_pos (by omega), if_pos (by omega), if_pos (by omega), if_pos (by rw [wl_len]; omega), e1, wl_rd _ _ j (by omega), w64 (wearP cs fc p j n + wearStep cs fc j n) (by omega) (by omega), w64s j (by omega)]
    simp only [failC] at he
    by_cases h3 : wearP cs fc p j n + wearStep cs fc j n > (rd_T34 cs (j : Int)).f1
    · rw [if_pos h3] at he ⊢
      exact (hfound j he.symm).symm
    · rw [if_neg h3] at he ⊢
      exact ih k (j + 1) (by omega) (by omega) he
theorem implFail_l0 (wearK : Nat) (hW : wearOk wearK) (cs : List S34) (fc st : List Int) (x y : Int) (hh : hdOk cs fc st x y = true) (p : List S49) (hp : planIn cs.length p) : ∀ (d k n : Nat), n + d = fc.length → wearK + 100 * d < k → impl_Head_failure.l0 k p fc fc.length n cs fc st x y = some (match failN cs fc p d n with | some (c, n) => ((c : Int), (n : Int)) | none => (-1, -1)) := by
  intro d
  have hin := hdOk_in hh
  induction d with
  | zero =>
    intro k n hn hk
    obtain ⟨k, rfl⟩ : ∃ m, k = m + 1 := ⟨k - 1, by omega⟩
    simp only [impl_Head_failure.l0, failN]
    rw [if_neg (by omega)]
  | succ d ih =>
    intro k n hn hk
    obtain ⟨k, rfl⟩ : ∃ m, k = m + 1 := ⟨k - 1, by omega⟩
    simp only [impl_Head_failure.l0, failN]
    rw [if_pos (by omega), if_pos (by omega), if_pos (by omega), implWorn_is wearK hW k cs fc st x y hh p hp n (by omega) (by omega), bind_some_]
    refine implFail_l1 cs fc st x y hh p n (by omega) _ _ (wearK + 100 * d + 1) ?_ ?_ cs.length k 0 (by omega) (by omega) rfl
    · intro h1 k2 hk2
      rw [h1]
      exact ih k2 (n + 1) (by omega) (by omega)
    · intro c hc
      rw [hc]
theorem implFail_is (wearK : Nat) (hW : wearOk wearK) (k : Nat) (cs : List S34) (fc st : List Int) (x y : Int) (hh : hdOk cs fc st x y = true) (p : List S49) (hp : planIn cs.length p) (hk : wearK + 10000 ≤ k) : impl_Head_failure.f k cs fc st x y p = some (match failP cs fc p with | some (c, n) => ((c : Int), (n : Int)) | none => (-1, -1)) := by
  have hin := hdOk_in hh
  unfold impl_Head_failure.f failP
  exact implFail_l0 wearK hW cs fc st x y hh p hp fc.length k 0 (by omega) (by omega)

/- The plan for stops, plainly. -/
def pickGo (cs : List S34) (fc : List Int) (p : List S49) (r nx : Nat) : Nat → Nat → List Int
  | 0, _ => []
  | d + 1, c => if reachOf cs fc c r (wearP cs fc p c r) < nx then (c : Int) :: pickGo cs fc p r nx d (c + 1) else pickGo cs fc p r nx d (c + 1)
def pick (cs : List S34) (fc : List Int) (p : List S49) (r nx : Nat) : List Int := pickGo cs fc p r nx cs.length 0
def forStep (cs : List S34) (fc : List Int) (r nx : Nat) (p : List S49) : List S49 :=
  if ((pick cs fc p r nx).length : Int) > 0 then p ++ [⟨(r : Int), pick cs fc p r nx⟩] else p
def nextAt (fc s : List Int) (i : Nat) : Nat := if ((i + 1 : Nat) : Int) < (s.length : Int) then (rd s ((i + 1 : Nat) : Int)).toNat else fc.length
def forGo (cs : List S34) (fc s : List Int) : Nat → Nat → List S49 → List S49
  | 0, _, p => p
  | d + 1, i, p => forGo cs fc s d (i + 1) (forStep cs fc (rd s (i : Int)).toNat (nextAt fc s i) p)
def forP (cs : List S34) (fc s : List Int) : List S49 := forGo cs fc s s.length 0 []
theorem pickGo_in (cs : List S34) (fc : List Int) (p : List S49) (r nx : Nat) : ∀ d c : Nat, (pickGo cs fc p r nx d c).length ≤ d ∧ ∀ v ∈ pickGo cs fc p r nx d c, (c : Int) ≤ v ∧ v < ((c + d : Nat) : Int)
  | 0, c => by simp [pickGo]
  | d + 1, c => by
    obtain ⟨h1, h2⟩ := pickGo_in cs fc p r nx d (c + 1)
    simp only [pickGo]
    split
    · refine ⟨by simp only [List.length_cons]; omega, ?_⟩
      intro v hv
      rcases List.mem_cons.mp hv with h | h
      · rw [h]; omega
      · have := h2 v h; omega
    · exact ⟨by omega, fun v hv => by have := h2 v hv; omega⟩
theorem pickP_in (cs : List S34) (fc : List Int) (p : List S49) (r nx : Nat) : (pick cs fc p r nx).length ≤ cs.length ∧ ∀ v ∈ pick cs fc p r nx, 0 ≤ v ∧ v < (cs.length : Int) := by
  obtain ⟨h1, h2⟩ := pickGo_in cs fc p r nx cs.length 0
  refine ⟨h1, ?_⟩
  intro v hv
  have := h2 v hv
  omega
theorem forStep_in {cs : List S34} (fc : List Int) {p : List S49} (r nx : Nat) (hc : cs.length ≤ 5) {i : Nat} (hi : i < 1048576) (hl : p.length ≤ i) (hp : planIn cs.length p) : (forStep cs fc r nx p).length ≤ i + 1 ∧ planIn cs.length (forStep cs fc r nx p) := by
  obtain ⟨h1, h2⟩ := pickP_in cs fc p r nx
  unfold forStep
  split
  · refine ⟨by simp only [List.length_append, List.length_cons, List.length_nil]; omega, ⟨by simp only [List.length_append, List.length_cons, List.length_nil]; omega, ?_⟩, ?_⟩
    · intro s hs
      rcases List.mem_append.mp hs with h | h
      · exact hp.1.2 s h
      · rw [List.mem_singleton.mp h]
        dsimp only
        omega
    · intro s hs
      rcases List.mem_append.mp hs with h | h
      · exact hp.2 s h
      · rw [List.mem_singleton.mp h]
        exact h2
  · exact ⟨by omega, hp⟩
theorem forGo_in {cs : List S34} (fc s : List Int) (hc : cs.length ≤ 5) : ∀ (d i : Nat) (p : List S49), i + d ≤ 1048576 → p.length ≤ i → planIn cs.length p → (forGo cs fc s d i p).length ≤ i + d ∧ planIn cs.length (forGo cs fc s d i p)
  | 0, i, p, _, hl, hp => ⟨hl, hp⟩
  | d + 1, i, p, h, hl, hp => by
    obtain ⟨h1, h2⟩ := forStep_in fc (rd s (i : Int)).toNat (nextAt fc s i) hc (show i < 1048576 by omega) hl hp
    obtain ⟨h3, h4⟩ := forGo_in fc s hc d (i + 1) _ (by omega) h1 h2
    simp only [forGo]
    exact ⟨by omega, h4⟩
theorem planIn_nil (n : Nat) : planIn n ([] : List S49) := ⟨⟨by simp, by simp⟩, by simp⟩
theorem forP_in {cs : List S34} (fc s : List Int) (hc : cs.length ≤ 5) (hs : s.length ≤ 1048576) : (forP cs fc s).length ≤ s.length ∧ planIn cs.length (forP cs fc s) := by
  have := forGo_in fc s hc s.length 0 [] (by omega) (by simp) (planIn_nil _)
  simpa [forP] using this

/- The plan for stops, as the program makes it. -/
theorem implFor_l1 (cs : List S34) (fc st : List Int) (x y : Int) (hh : hdOk cs fc st x y = true) (s : List Int) (p : List S49) (r nx : Nat) (hr : r ≤ fc.length) (i : Int) (out : Option (List S49 × Bool)) (B : Nat) (hB : 100 ≤ B)
    (hcont : ∀ k, B ≤ k → (if ((pick cs fc p r nx).length : Int) > 0 then (if p.length < 4398046511104 then impl_Head_planFor.l0 k s (p ++ [(⟨(r : Int), pick cs fc p r nx⟩ : S49)]) s s.length (wrap64 (i + 1)) cs fc st x y else none) else impl_Head_planFor.l0 k s p s s.length (wrap64 (i + 1)) cs fc st x y) = out) :
    ∀ (d k c : Nat) (acc : List Int), c + d = cs.length → B + d < k → acc.length ≤ c → acc ++ pickGo cs fc p r nx d c = pick cs fc p r nx → impl_Head_planFor.l1 k s p r nx s s.length i (wl cs.length (fun c => wearP cs fc p c r)) ((wl cs.length (fun c => wearP cs fc p c r)).length : Int) c cs fc st x y r acc = out := by
  intro d
  have hin := hdOk_in hh
  induction d with
  | zero =>
    intro k c acc hc hk hl ha
    obtain ⟨k, rfl⟩ : ∃ m, k = m + 1 := ⟨k - 1, by omega⟩
    simp only [impl_Head_planFor.l1]
    rw [if_neg (by rw [wl_len]; omega)]
    simp only [pickGo, List.append_nil] at ha
    rw [ha]
    exact hcont k (by omega)
  | succ d ih =>
    intro k c acc hc hk hl ha
    obtain ⟨k, rfl⟩ : ∃ m, k = m + 1 := ⟨k - 1, by omega⟩
    simp only [pickGo] at ha
    simp only [impl_Head_planFor.l1]
    rw [if_pos (by rw [wl_len]; omega), if_pos (by omega), if_pos (by rw [wl_len]; omega), wl_rd _ _ c (by omega), implReach_is k cs fc st x y c r _ (by omega) (by omega) hr (by omega), bind_some_, w64s c (by omega)]
    by_cases h : reachOf cs fc c r (wearP cs fc p c r) < nx
    · rw [if_pos h] at ha
      rw [if_pos (by omega), if_pos (by omega)]
      refine ih k (c + 1) _ (by omega) (by omega) (by simp only [List.length_append, List.length_cons, List.length_nil]; omega) ?_
      rw [List.append_assoc, List.singleton_append]
      exact ha
    · rw [if_neg h] at ha
      rw [if_neg (by omega)]
      exact ih k (c + 1) acc (by omega) (by omega) (by omega) ha
theorem implFor_l0 (wearK : Nat) (hW : wearOk wearK) (cs : List S34) (fc st : List Int) (x y : Int) (hh : hdOk cs fc st x y = true) (s : List Int) (hs : s.length ≤ 1048576) (hz : ∀ j : Nat, j < s.length → 0 ≤ rd s (j : Int) ∧ rd s (j : Int) < fc.length) :
    ∀ (d k i : Nat) (p : List S49), i + d = s.length → wearK + 20000 + 100 * d < k → p.length ≤ i → planIn cs.length p → impl_Head_planFor.l0 k s p s s.length i cs fc st x y = some (forGo cs fc s d i p, (failP cs fc (forGo cs fc s d i p)).isNone) := by
  intro d
  have hin := hdOk_in hh
  induction d with
  | zero =>
    intro k i p hi hk hl hp
    obtain ⟨k, rfl⟩ : ∃ m, k = m + 1 := ⟨k - 1, by omega⟩
    simp only [impl_Head_planFor.l0, forGo]
    rw [if_neg (by omega), implFail_is wearK hW k cs fc st x y hh p hp (by omega), bind_some_]
    cases failP cs fc p with
    | none => simp
    | some q =>
      obtain ⟨c, n⟩ := q
      simp
  | succ d ih =>
    intro k i p hi hk hl hp
    obtain ⟨k, rfl⟩ : ∃ m, k = m + 1 + 1 := ⟨k - 2, by omega⟩
    have g1 : (i : Int) < (s.length : Int) := by omega
    have g2 : (0 : Int) ≤ (i : Int) := by omega
    have g3 : i < 9223372036854775807 := by omega
    have g4 : (0 : Int) ≤ ((i + 1 : Nat) : Int) := by omega
    have hj := hz i (by omega)
    obtain ⟨r, hr⟩ : ∃ r : Nat, rd s (i : Int) = r := ⟨(rd s (i : Int)).toNat, by omega⟩
    rw [hr] at hj
    obtain ⟨h1, h2⟩ := forStep_in fc r (nextAt fc s i) hin.1 (show i < 1048576 by omega) hl hp
    have hgo : ∀ nx : Nat, nx = nextAt fc s i → impl_Head_planFor.j1 (k + 1) s p r nx s s.length i cs fc st x y = some (forGo cs fc s d (i + 1) (forStep cs fc r (nextAt fc s i) p), (failP cs fc (forGo cs fc s d (i + 1) (forStep cs fc r (nextAt fc s i) p))).isNone) := by
      intro nx hnx
      simp only [impl_Head_planFor.j1]
      rw [implWorn_is wearK hW k cs fc st x y hh p hp r (by omega) (by omega), bind_some_]
      refine implFor_l1 cs fc st x y hh s p r nx (by omega) i _ (wearK + 20000 + 100 * d + 10) (by omega) ?_ cs.length k 0 [] (by omega) (by omega) (by simp) rfl
      intro k2 hk2
      rw [w64s i (by omega), hnx]
      have hz2 := ih k2 (i + 1) _ (by omega) (by omega) h1 h2
      unfold forStep at hz2 ⊢
      split
      · rename_i hpos
        rw [if_pos hpos] at hz2
        rw [if_pos (by omega)]
        exact hz2
      · rename_i hpos
        rw [if_neg hpos] at hz2
        exact hz2
    have e1 : wrap64 ((i : Int) + 1) = ((i + 1 : Nat) : Int) := w64s i g3
    simp only [impl_Head_planFor.l0, forGo]
    rw [if_pos g1, if_pos g2, if_pos g1, e1, hr, Int.toNat_natCast]
    by_cases h : ((i + 1 : Nat) : Int) < (s.length : Int)
    · have hj2 := hz (i + 1) (by omega)
      have e2 : rd s ((i + 1 : Nat) : Int) = ((rd s ((i + 1 : Nat) : Int)).toNat : Int) := (Int.toNat_of_nonneg hj2.1).symm
      rw [if_pos h, if_pos g4, e2]
      refine hgo _ ?_
      unfold nextAt
      rw [if_pos h]
    · rw [if_neg h]
      refine hgo _ ?_
      unfold nextAt
      rw [if_neg h]
theorem implFor_is (wearK : Nat) (hW : wearOk wearK) (k : Nat) (cs : List S34) (fc st : List Int) (x y : Int) (hh : hdOk cs fc st x y = true) (s : List Int) (hs : s.length ≤ 1048576) (hz : ∀ j : Nat, j < s.length → 0 ≤ rd s (j : Int) ∧ rd s (j : Int) < fc.length) (hk : wearK + 200000000 ≤ k) : impl_Head_planFor.f k cs fc st x y s = some (forP cs fc s, (failP cs fc (forP cs fc s)).isNone) := by
  unfold impl_Head_planFor.f forP
  exact implFor_l0 wearK hW cs fc st x y hh s hs hz s.length k 0 [] (by omega) (by omega) (by simp) (planIn_nil _)

/- A number is in a list, as the reference asks it. -/
/- A number lies in a range, as the reference asks it. -/
/- Numbers in a range that rise, as the reference asks it. -/
end Go.Proofs.Ytfcadpkhmkjibaa.P
