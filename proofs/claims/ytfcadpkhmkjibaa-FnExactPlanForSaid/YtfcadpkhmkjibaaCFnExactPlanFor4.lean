/- What the claim of FnExactPlanFor bears, part 4: functions of the program as plain Lean functions, with proofs that the code comes to their answers, and lemmas on them. -/
import Derived.Test.YtfcadpkhmkjibaaCFnExactPlanFor0
import Derived.Test.YtfcadpkhmkjibaaCFnExactPlanFor1
import Derived.Test.YtfcadpkhmkjibaaCFnExactPlanFor2
import Derived.Test.YtfcadpkhmkjibaaCFnExactPlanFor3
namespace Go.Proofs.Ytfcadpkhmkjibaa.P
open Go.RowKit Go.Proofs.YtfcadpkhmkjibaaW.PrintWords Go.Proofs.YtfcadpkhmkjibaaW.PrintLast Go.Proofs.YtfcadpkhmkjibaaW.PrintMore
attribute [local go_sem] max2_int min2_int max_two min_two max_three min_three max_four min_four   -- for this text's walks alone
set_option linter.unusedVariables false
set_option linter.unusedSimpArgs false

mutual
def spec_PlanFor.j0 : Nat → List Int → Bool → List (S34) → List Int → List Int → Int → Int → Option ((List (S49)) × Bool)
 | 0, _, _, _, _, _, _, _ => none
 | k + 1, x1, x18, x661000, x661001, x661002, x661003, x661004 => if x18 = true then (some (([] : List (S49)), false)) else (spec_PlanFor.l0 k x1 0 x661000 x661001 x661002 x661003 x661004)
def spec_PlanFor.l0 : Nat → List Int → Int → List (S34) → List Int → List Int → Int → Int → Option ((List (S49)) × Bool)
 | 0, _, _, _, _, _, _, _ => none
 | k + 1, x1, x6, x661000, x661001, x661002, x661003, x661004 => if x6 < (x1.length : Int) then (if 0 ≤ x6 then ((spec_l00Has.f k x661002 (rd x1 x6)).bind fun t664 => (if t664 = true then (spec_PlanFor.l0 k x1 (wrap64 (x6 + 1)) x661000 x661001 x661002 x661003 x661004) else (some (([] : List (S49)), false)))) else (none)) else ((spec_l08For.f k x661000 x661001 x661002 x661003 x661004 x1).bind fun t665 => ((spec_l08Enough.f k x661000 x661001 x661002 x661003 x661004 t665).bind fun t668 => (if t668 = true then (some (t665, true)) else (some (([] : List (S49)), false)))))
end
def spec_PlanFor.f (k : Nat) (l0_0 : List (S34)) (l0_1 : List Int) (l0_2 : List Int) (a0_3 : Int) (a0_4 : Int) (l1 : List Int) : Option ((List (S49)) × Bool) := (spec_l08Is.f k l0_0 l0_1 l0_2 a0_3 a0_4).bind fun t661 => (if t661 = true then ((spec_l00Rises.f k l1 0 (wrap64 ((l0_1.length : Int) - 1))).bind fun t662 => (spec_PlanFor.j0 k l1 (!t662) l0_0 l0_1 l0_2 a0_3 a0_4)) else (spec_PlanFor.j0 k l1 true l0_0 l0_1 l0_2 a0_3 a0_4))
set_option maxHeartbeats 8000000 in
set_option maxRecDepth 100000 in
theorem spec_PlanFor.calls (k : Nat) (A0_0 : Option Addr) (c0_0 : Nat) (l0_0 : List (S34)) (A0_1 : Option Addr) (c0_1 : Nat) (l0_1 : List Int) (A0_2 : Option Addr) (c0_2 : Nat) (l0_2 : List Int) (a0_3 : Int) (a0_4 : Int) (A1 : Option Addr) (c1 : Nat) (l1 : List Int) (r1 : List (S49)) (r2 : Bool) (w : World) (hr0_0 : Kd.C k34 w A0_0 l0_0.length l0_0) (hc0_0 : l0_0.length ≤ c0_0) (hr0_1 : Kd.C (Kd.int .i64) w A0_1 l0_1.length l0_1) (hc0_1 : l0_1.length ≤ c0_1) (hr0_2 : Kd.C (Kd.int .i64) w A0_2 l0_2.length l0_2) (hc0_2 : l0_2.length ≤ c0_2) (hr1 : Kd.C (Kd.int .i64) w A1 l1.length l1) (hc1 : l1.length ≤ c1) (h : spec_PlanFor.f k l0_0 l0_1 l0_2 a0_3 a0_4 l1 = some (r1, r2)) :
  Calls Try.prog 36 #[.agg #[.slice A0_0 l0_0.length c0_0, .slice A0_1 l0_1.length c0_1, .slice A0_2 l0_2.length c0_2, .int .i64 a0_3, .int .i64 a0_4], .slice A1 l1.length c1] w fun e w' => ∃ v0_ : Value, e = .returned (.tuple #[v0_, .bool r2]) ∧ Kd.S k49 49 w' w.heap.size (fun _ => True) v0_ r1 ∧ Below w.heap.size w w' := by
 have hu27 := Try.underlying27
 have HR0_0 := Aside0.mk hr0_0
 have HC0_0 := Aside0.mk hc0_0
 clear hr0_0 hc0_0
 have HR0_1 := Aside0.mk hr0_1
 have HC0_1 := Aside0.mk hc0_1
 clear hr0_1 hc0_1
 have HR0_2 := Aside0.mk hr0_2
 have HC0_2 := Aside0.mk hc0_2
 clear hr0_2 hc0_2
 have HR1 := Aside0.mk hr1
 have HC1 := Aside0.mk hc1
 clear hr1 hc1
 have HB := Aside0.mk (Below.refl w.heap.size w)
 have H : ((spec_l08Is.f k l0_0 l0_1 l0_2 a0_3 a0_4).bind fun t661 => (if t661 = true then ((spec_l00Rises.f k l1 0 (wrap64 ((l0_1.length : Int) - 1))).bind fun t662 => (spec_PlanFor.j0 k l1 (!t662) l0_0 l0_1 l0_2 a0_3 a0_4)) else (spec_PlanFor.j0 k l1 true l0_0 l0_1 l0_2 a0_3 a0_4))) = some (r1, r2) := h
 clear h
 have HC3 := Aside0.mk H
 clear H
 go_enter Try.func36, Try.ntmps36
 go_upto_region 1 with (first | ((with_reducible refine gate_dst (N := 2) rfl ?_); (try (refine gate_guard (by rfl) ?_; dsimp only)); refine box_event ?hg (N := 2) ?hd (cs := #[.slice A0_0 l0_0.length c0_0, .slice A0_1 l0_1.length c0_1, .slice A0_2 l0_2.length c0_2, .int .i64 a0_3, .int .i64 a0_4]) (t := 27) ?hr ?_; (case hd => rfl); (case hg => rfl); (case hr => first | (go_simp; done) | (go_simp; rfl)); intro gb660 hg w4 hbox hb; have n0_ := Aside0.mk (below_step (by repeat (first | (with_reducible first | exact HB.out | apply below_alloc | apply pw_below_drewN | apply below_drew1) | exact HB.out)) hb); have n1_ := Aside0.mk (hbox); have n2_ := Aside0.mk ((by rw [hg]; exact (below_size (by repeat (first | (with_reducible first | exact HB.out | apply below_alloc | apply pw_below_drewN | apply below_drew1) | exact HB.out))) : w.heap.size ≤ gb660)); have n3_ := Aside0.mk ((by rw [hg]; exact (below_size (by repeat (first | (with_reducible first | exact HB.out | apply below_alloc | apply pw_below_drewN | apply below_drew1) | exact HB.out))) : w.heap.size ≤ gb660)); clear HB; have HB := n0_; have BK660 := n1_; have GW660 := n2_; have GE660 := n3_; clear n0_ n1_ n2_ n3_; clear hb hbox hg))
 repeat (go_quiet (first | ((with_reducible refine gate_dst (N := 2) rfl ?_); (try (refine gate_guard (by rfl) ?_; dsimp only)); refine box_event ?hg (N := 2) ?hd (cs := #[.slice A0_0 l0_0.length c0_0, .slice A0_1 l0_1.length c0_1, .slice A0_2 l0_2.length c0_2, .int .i64 a0_3, .int .i64 a0_4]) (t := 27) ?hr ?_; (case hd => rfl); (case hg => rfl); (case hr => first | (go_simp; done) | (go_simp; rfl)); intro gb660 hg w4 hbox hb; have n0_ := Aside0.mk (below_step (by repeat (first | (with_reducible first | exact HB.out | apply below_alloc | apply pw_below_drewN | apply below_drew1) | exact HB.out)) hb); have n1_ := Aside0.mk (hbox); have n2_ := Aside0.mk ((by rw [hg]; exact (below_size (by repeat (first | (with_reducible first | exact HB.out | apply below_alloc | apply pw_below_drewN | apply below_drew1) | exact HB.out))) : w.heap.size ≤ gb660)); have n3_ := Aside0.mk ((by rw [hg]; exact (below_size (by repeat (first | (with_reducible first | exact HB.out | apply below_alloc | apply pw_below_drewN | apply below_drew1) | exact HB.out))) : w.heap.size ≤ gb660)); clear HB; have HB := n0_; have BK660 := n1_; have GW660 := n2_; have GE660 := n3_; clear n0_ n1_ n2_ n3_; clear hb hbox hg)); go_upto_region 1 with (first | ((with_reducible refine gate_dst (N := 2) rfl ?_); (try (refine gate_guard (by rfl) ?_; dsimp only)); refine box_event ?hg (N := 2) ?hd (cs := #[.slice A0_0 l0_0.length c0_0, .slice A0_1 l0_1.length c0_1, .slice A0_2 l0_2.length c0_2, .int .i64 a0_3, .int .i64 a0_4]) (t := 27) ?hr ?_; (case hd => rfl); (case hg => rfl); (case hr => first | (go_simp; done) | (go_simp; rfl)); intro gb660 hg w4 hbox hb; have n0_ := Aside0.mk (below_step (by repeat (first | (with_reducible first | exact HB.out | apply below_alloc | apply pw_below_drewN | apply below_drew1) | exact HB.out)) hb); have n1_ := Aside0.mk (hbox); have n2_ := Aside0.mk ((by rw [hg]; exact (below_size (by repeat (first | (with_reducible first | exact HB.out | apply below_alloc | apply pw_below_drewN | apply below_drew1) | exact HB.out))) : w.heap.size ≤ gb660)); have n3_ := Aside0.mk ((by rw [hg]; exact (below_size (by repeat (first | (with_reducible first | exact HB.out | apply below_alloc | apply pw_below_drewN | apply below_drew1) | exact HB.out))) : w.heap.size ≤ gb660)); clear HB; have HB := n0_; have BK660 := n1_; have GW660 := n2_; have GE660 := n3_; clear n0_ n1_ n2_ n3_; clear hb hbox hg)))
 (try simp only [Act.put, List.setIfInBounds_toArray, List.set_cons_zero, List.set_cons_succ])
 go_cut [18] (fun v18 wc => ∃ (kq : Nat) (x18_2 : Bool) (x661003_2 : Int) (x661004_2 : Int), v18 = .bool x18_2 ∧ Aside0 (spec_PlanFor.j0 kq l1 x18_2 l0_0 l0_1 l0_2 x661003_2 x661004_2 = some (r1, r2)) ∧ Aside0 (kq ≤ k) ∧ Aside0 (wc.heap[gb660]? = some (.cells #[(.slice A0_0 l0_0.length c0_0), (.slice A0_1 l0_1.length c0_1), (.slice A0_2 l0_2.length c0_2), .int .i64 x661003_2, .int .i64 x661004_2] 27 (0, 0))) ∧ Aside0 (Below w.heap.size w wc))
 case first =>
  have H := HC3.out
  clear HC3
  replace H := Option.bind_eq_some_iff.mp H
  obtain ⟨t661, A50, H⟩ := H
  replace H : (if t661 = true then ((spec_l00Rises.f k l1 0 (wrap64 ((l0_1.length : Int) - 1))).bind fun t662 => (spec_PlanFor.j0 k l1 (!t662) l0_0 l0_1 l0_2 a0_3 a0_4)) else (spec_PlanFor.j0 k l1 true l0_0 l0_1 l0_2 a0_3 a0_4)) = some (r1, r2) := H
  have A5 := Aside0.mk A50
  clear A50
  by_cases c6 : t661 = true
  ·subst c6
   have H1 : ((spec_l00Rises.f k l1 0 (wrap64 ((l0_1.length : Int) - 1))).bind fun t662 => (spec_PlanFor.j0 k l1 (!t662) l0_0 l0_1 l0_2 a0_3 a0_4)) = some (r1, r2) := by rw [if_pos rfl] at H; exact H
   clear H
   have H := H1
   clear H1
   replace H := Option.bind_eq_some_iff.mp H
   obtain ⟨t662, A70, H⟩ := H
   replace H : (spec_PlanFor.j0 k l1 (!t662) l0_0 l0_1 l0_2 a0_3 a0_4) = some (r1, r2) := H
   have A7 := Aside0.mk A70
   clear A70
   have H' := Aside0.mk H
   clear H
   go_wp2_with (first | (go_at_call 60; (with_reducible refine (spec_l08Is.calls k gb660 A0_0 c0_0 l0_0 A0_1 c0_1 l0_1 A0_2 c0_2 l0_2 a0_3 a0_4 true _ ?side1 ?side2 ?side3 ?side4 ?side5 ?side6 ?side7 A5.out).mono ?_); (case side1 => repeat (first | exact (Kd.C_below HR0_0.out HB.out) | (with_reducible refine Kd.C_alloc ?_ _) | (with_reducible refine Kd.C_drewN ?_ _) | (with_reducible refine Kd.C_drew ?_))); (case side2 => exact HC0_0.out); (case side3 => repeat (first | exact (Kd.C_below HR0_1.out HB.out) | (with_reducible refine Kd.C_alloc ?_ _) | (with_reducible refine Kd.C_drewN ?_ _) | (with_reducible refine Kd.C_drew ?_))); (case side4 => exact HC0_1.out); (case side5 => repeat (first | exact (Kd.C_below HR0_2.out HB.out) | (with_reducible refine Kd.C_alloc ?_ _) | (with_reducible refine Kd.C_drewN ?_ _) | (with_reducible refine Kd.C_drew ?_))); (case side6 => exact HC0_2.out); (case side7 => exact (by (with_reducible repeat (first | refine blk_drewN ?_ _ | refine blk_drew ?_ | refine blk_alloc ?_ _)); exact BK660.out)); rintro e w8 ⟨rfl, hb⟩; (try (have db_ : ∀ {w w' : World}, Drawn0 w w' → Below w.heap.size w w' := (by intro w w' h_; obtain ⟨n_, rfl⟩ := h_; exact pw_below_drewN (Below.refl _ _) _); replace hb := db_ hb; clear db_)); have n0_ := Aside0.mk (blk_below (g := gb660) (o := .cells #[.slice A0_0 l0_0.length c0_0, .slice A0_1 l0_1.length c0_1, .slice A0_2 l0_2.length c0_2, .int .i64 a0_3, .int .i64 a0_4] 27 (0, 0)) (by (with_reducible repeat (first | refine blk_drewN ?_ _ | refine blk_drew ?_ | refine blk_alloc ?_ _)); exact BK660.out) hb); have n1_ := Aside0.mk (below_step (by repeat (first | (with_reducible first | exact HB.out | apply below_alloc | apply pw_below_drewN | apply below_drew1 | refine below_set ?_ GE660.out) | exact HB.out)) hb); clear BK660; clear HB; have BK660 := n0_; have HB := n1_; clear n0_ n1_; (try clear hb); (try clear hb2); (try clear hk); (try clear hi); have hcz9_0 : w8.cell? ⟨gb660, 0, none⟩ = some (.slice A0_0 l0_0.length c0_0) := (blk_cell BK660.out 0).trans rfl; have hcz9_1 : w8.cell? ⟨gb660, 1, none⟩ = some (.slice A0_1 l0_1.length c0_1) := (blk_cell BK660.out 1).trans rfl; have hcz9_2 : w8.cell? ⟨gb660, 2, none⟩ = some (.slice A0_2 l0_2.length c0_2) := (blk_cell BK660.out 2).trans rfl; have hcz9_3 : w8.cell? ⟨gb660, 3, none⟩ = some (.int .i64 a0_3) := (blk_cell BK660.out 3).trans rfl; have hcz9_4 : w8.cell? ⟨gb660, 4, none⟩ = some (.int .i64 a0_4) := (blk_cell BK660.out 4).trans rfl; have hfz9_0 := blk_frozen BK660.out 0; have hfz9_1 := blk_frozen BK660.out 1; have hfz9_2 := blk_frozen BK660.out 2; have hfz9_3 := blk_frozen BK660.out 3; have hfz9_4 := blk_frozen BK660.out 4) | (go_at_call 70; (with_reducible refine (spec_l00Rises.calls k _ _ l1 0 (wrap64 ((l0_1.length : Int) - 1)) t662 _ ?side1 ?side2 A7.out).mono ?_); (case side1 => repeat (first | exact (Kd.C_below HR1.out HB.out) | (with_reducible refine Kd.C_alloc ?_ _) | (with_reducible refine Kd.C_drewN ?_ _) | (with_reducible refine Kd.C_drew ?_))); (case side2 => exact HC1.out); rintro e w' ⟨rfl, ⟨nd, rfl⟩⟩; (try first | exact ⟨rfl, _, World.drewN_drewN _ _ _⟩ | exact ⟨rfl, _, Eq.trans (World.drewN_drewN _ _ _) (congrArg (World.drewN _) (Nat.add_assoc _ _ _))⟩)))
   repeat (go_quiet (first | (go_at_call 60; (with_reducible refine (spec_l08Is.calls k gb660 A0_0 c0_0 l0_0 A0_1 c0_1 l0_1 A0_2 c0_2 l0_2 a0_3 a0_4 true _ ?side1 ?side2 ?side3 ?side4 ?side5 ?side6 ?side7 A5.out).mono ?_); (case side1 => repeat (first | exact (Kd.C_below HR0_0.out HB.out) | (with_reducible refine Kd.C_alloc ?_ _) | (with_reducible refine Kd.C_drewN ?_ _) | (with_reducible refine Kd.C_drew ?_))); (case side2 => exact HC0_0.out); (case side3 => repeat (first | exact (Kd.C_below HR0_1.out HB.out) | (with_reducible refine Kd.C_alloc ?_ _) | (with_reducible refine Kd.C_drewN ?_ _) | (with_reducible refine Kd.C_drew ?_))); (case side4 => exact HC0_1.out); (case side5 => repeat (first | exact (Kd.C_below HR0_2.out HB.out) | (with_reducible refine Kd.C_alloc ?_ _) | (with_reducible refine Kd.C_drewN ?_ _) | (with_reducible refine Kd.C_drew ?_))); (case side6 => exact HC0_2.out); (case side7 => exact (by (with_reducible repeat (first | refine blk_drewN ?_ _ | refine blk_drew ?_ | refine blk_alloc ?_ _)); exact BK660.out)); rintro e w8 ⟨rfl, hb⟩; (try (have db_ : ∀ {w w' : World}, Drawn0 w w' → Below w.heap.size w w' := (by intro w w' h_; obtain ⟨n_, rfl⟩ := h_; exact pw_below_drewN (Below.refl _ _) _); replace hb := db_ hb; clear db_)); have n0_ := Aside0.mk (blk_below (g := gb660) (o := .cells #[.slice A0_0 l0_0.length c0_0, .slice A0_1 l0_1.length c0_1, .slice A0_2 l0_2.length c0_2, .int .i64 a0_3, .int .i64 a0_4] 27 (0, 0)) (by (with_reducible repeat (first | refine blk_drewN ?_ _ | refine blk_drew ?_ | refine blk_alloc ?_ _)); exact BK660.out) hb); have n1_ := Aside0.mk (below_step (by repeat (first | (with_reducible first | exact HB.out | apply below_alloc | apply pw_below_drewN | apply below_drew1 | refine below_set ?_ GE660.out) | exact HB.out)) hb); clear BK660; clear HB; have BK660 := n0_; have HB := n1_; clear n0_ n1_; (try clear hb); (try clear hb2); (try clear hk); (try clear hi); have hcz9_0 : w8.cell? ⟨gb660, 0, none⟩ = some (.slice A0_0 l0_0.length c0_0) := (blk_cell BK660.out 0).trans rfl; have hcz9_1 : w8.cell? ⟨gb660, 1, none⟩ = some (.slice A0_1 l0_1.length c0_1) := (blk_cell BK660.out 1).trans rfl; have hcz9_2 : w8.cell? ⟨gb660, 2, none⟩ = some (.slice A0_2 l0_2.length c0_2) := (blk_cell BK660.out 2).trans rfl; have hcz9_3 : w8.cell? ⟨gb660, 3, none⟩ = some (.int .i64 a0_3) := (blk_cell BK660.out 3).trans rfl; have hcz9_4 : w8.cell? ⟨gb660, 4, none⟩ = some (.int .i64 a0_4) := (blk_cell BK660.out 4).trans rfl; have hfz9_0 := blk_frozen BK660.out 0; have hfz9_1 := blk_frozen BK660.out 1; have hfz9_2 := blk_frozen BK660.out 2; have hfz9_3 := blk_frozen BK660.out 3; have hfz9_4 := blk_frozen BK660.out 4) | (go_at_call 70; (with_reducible refine (spec_l00Rises.calls k _ _ l1 0 (wrap64 ((l0_1.length : Int) - 1)) t662 _ ?side1 ?side2 A7.out).mono ?_); (case side1 => repeat (first | exact (Kd.C_below HR1.out HB.out) | (with_reducible refine Kd.C_alloc ?_ _) | (with_reducible refine Kd.C_drewN ?_ _) | (with_reducible refine Kd.C_drew ?_))); (case side2 => exact HC1.out); rintro e w' ⟨rfl, ⟨nd, rfl⟩⟩; (try first | exact ⟨rfl, _, World.drewN_drewN _ _ _⟩ | exact ⟨rfl, _, Eq.trans (World.drewN_drewN _ _ _) (congrArg (World.drewN _) (Nat.add_assoc _ _ _))⟩))); try go_wp2_with (first | (go_at_call 60; (with_reducible refine (spec_l08Is.calls k gb660 A0_0 c0_0 l0_0 A0_1 c0_1 l0_1 A0_2 c0_2 l0_2 a0_3 a0_4 true _ ?side1 ?side2 ?side3 ?side4 ?side5 ?side6 ?side7 A5.out).mono ?_); (case side1 => repeat (first | exact (Kd.C_below HR0_0.out HB.out) | (with_reducible refine Kd.C_alloc ?_ _) | (with_reducible refine Kd.C_drewN ?_ _) | (with_reducible refine Kd.C_drew ?_))); (case side2 => exact HC0_0.out); (case side3 => repeat (first | exact (Kd.C_below HR0_1.out HB.out) | (with_reducible refine Kd.C_alloc ?_ _) | (with_reducible refine Kd.C_drewN ?_ _) | (with_reducible refine Kd.C_drew ?_))); (case side4 => exact HC0_1.out); (case side5 => repeat (first | exact (Kd.C_below HR0_2.out HB.out) | (with_reducible refine Kd.C_alloc ?_ _) | (with_reducible refine Kd.C_drewN ?_ _) | (with_reducible refine Kd.C_drew ?_))); (case side6 => exact HC0_2.out); (case side7 => exact (by (with_reducible repeat (first | refine blk_drewN ?_ _ | refine blk_drew ?_ | refine blk_alloc ?_ _)); exact BK660.out)); rintro e w8 ⟨rfl, hb⟩; (try (have db_ : ∀ {w w' : World}, Drawn0 w w' → Below w.heap.size w w' := (by intro w w' h_; obtain ⟨n_, rfl⟩ := h_; exact pw_below_drewN (Below.refl _ _) _); replace hb := db_ hb; clear db_)); have n0_ := Aside0.mk (blk_below (g := gb660) (o := .cells #[.slice A0_0 l0_0.length c0_0, .slice A0_1 l0_1.length c0_1, .slice A0_2 l0_2.length c0_2, .int .i64 a0_3, .int .i64 a0_4] 27 (0, 0)) (by (with_reducible repeat (first | refine blk_drewN ?_ _ | refine blk_drew ?_ | refine blk_alloc ?_ _)); exact BK660.out) hb); have n1_ := Aside0.mk (below_step (by repeat (first | (with_reducible first | exact HB.out | apply below_alloc | apply pw_below_drewN | apply below_drew1 | refine below_set ?_ GE660.out) | exact HB.out)) hb); clear BK660; clear HB; have BK660 := n0_; have HB := n1_; clear n0_ n1_; (try clear hb); (try clear hb2); (try clear hk); (try clear hi); have hcz9_0 : w8.cell? ⟨gb660, 0, none⟩ = some (.slice A0_0 l0_0.length c0_0) := (blk_cell BK660.out 0).trans rfl; have hcz9_1 : w8.cell? ⟨gb660, 1, none⟩ = some (.slice A0_1 l0_1.length c0_1) := (blk_cell BK660.out 1).trans rfl; have hcz9_2 : w8.cell? ⟨gb660, 2, none⟩ = some (.slice A0_2 l0_2.length c0_2) := (blk_cell BK660.out 2).trans rfl; have hcz9_3 : w8.cell? ⟨gb660, 3, none⟩ = some (.int .i64 a0_3) := (blk_cell BK660.out 3).trans rfl; have hcz9_4 : w8.cell? ⟨gb660, 4, none⟩ = some (.int .i64 a0_4) := (blk_cell BK660.out 4).trans rfl; have hfz9_0 := blk_frozen BK660.out 0; have hfz9_1 := blk_frozen BK660.out 1; have hfz9_2 := blk_frozen BK660.out 2; have hfz9_3 := blk_frozen BK660.out 3; have hfz9_4 := blk_frozen BK660.out 4) | (go_at_call 70; (with_reducible refine (spec_l00Rises.calls k _ _ l1 0 (wrap64 ((l0_1.length : Int) - 1)) t662 _ ?side1 ?side2 A7.out).mono ?_); (case side1 => repeat (first | exact (Kd.C_below HR1.out HB.out) | (with_reducible refine Kd.C_alloc ?_ _) | (with_reducible refine Kd.C_drewN ?_ _) | (with_reducible refine Kd.C_drew ?_))); (case side2 => exact HC1.out); rintro e w' ⟨rfl, ⟨nd, rfl⟩⟩; (try first | exact ⟨rfl, _, World.drewN_drewN _ _ _⟩ | exact ⟨rfl, _, Eq.trans (World.drewN_drewN _ _ _) (congrArg (World.drewN _) (Nat.add_assoc _ _ _))⟩))))
   go_meet
   case rel => exact ⟨_, (!t662), (a0_3), (a0_4), (by first | rfl | (simp; done) | (simp [*]; done) | (simp [Int.tdiv_eq_ediv_of_nonneg, *]; done)), H', ⟨by first | omega | exact Nat.le_refl _⟩, ⟨by (with_reducible repeat (first | refine blk_drewN ?_ _ | refine blk_drew ?_ | refine blk_alloc ?_ _)); exact BK660.out⟩, ⟨by repeat (first | (with_reducible first | exact HB.out | apply below_alloc | apply pw_below_drewN | apply below_drew1 | refine below_set ?_ GE660.out) | exact HB.out)⟩⟩
  ·replace c6 := Bool.eq_false_iff.mpr c6
   subst c6
   have H1 : (spec_PlanFor.j0 k l1 true l0_0 l0_1 l0_2 a0_3 a0_4) = some (r1, r2) := by rw [if_neg (show ¬ (false = true) by decide)] at H; exact H
   clear H
   have H := H1
   clear H1
   have H' := Aside0.mk H
   clear H
   go_wp2_with (first | (go_at_call 60; (with_reducible refine (spec_l08Is.calls k gb660 A0_0 c0_0 l0_0 A0_1 c0_1 l0_1 A0_2 c0_2 l0_2 a0_3 a0_4 false _ ?side1 ?side2 ?side3 ?side4 ?side5 ?side6 ?side7 A5.out).mono ?_); (case side1 => repeat (first | exact (Kd.C_below HR0_0.out HB.out) | (with_reducible refine Kd.C_alloc ?_ _) | (with_reducible refine Kd.C_drewN ?_ _) | (with_reducible refine Kd.C_drew ?_))); (case side2 => exact HC0_0.out); (case side3 => repeat (first | exact (Kd.C_below HR0_1.out HB.out) | (with_reducible refine Kd.C_alloc ?_ _) | (with_reducible refine Kd.C_drewN ?_ _) | (with_reducible refine Kd.C_drew ?_))); (case side4 => exact HC0_1.out); (case side5 => repeat (first | exact (Kd.C_below HR0_2.out HB.out) | (with_reducible refine Kd.C_alloc ?_ _) | (with_reducible refine Kd.C_drewN ?_ _) | (with_reducible refine Kd.C_drew ?_))); (case side6 => exact HC0_2.out); (case side7 => exact (by (with_reducible repeat (first | refine blk_drewN ?_ _ | refine blk_drew ?_ | refine blk_alloc ?_ _)); exact BK660.out)); rintro e w10 ⟨rfl, hb⟩; (try (have db_ : ∀ {w w' : World}, Drawn0 w w' → Below w.heap.size w w' := (by intro w w' h_; obtain ⟨n_, rfl⟩ := h_; exact pw_below_drewN (Below.refl _ _) _); replace hb := db_ hb; clear db_)); have n0_ := Aside0.mk (blk_below (g := gb660) (o := .cells #[.slice A0_0 l0_0.length c0_0, .slice A0_1 l0_1.length c0_1, .slice A0_2 l0_2.length c0_2, .int .i64 a0_3, .int .i64 a0_4] 27 (0, 0)) (by (with_reducible repeat (first | refine blk_drewN ?_ _ | refine blk_drew ?_ | refine blk_alloc ?_ _)); exact BK660.out) hb); have n1_ := Aside0.mk (below_step (by repeat (first | (with_reducible first | exact HB.out | apply below_alloc | apply pw_below_drewN | apply below_drew1 | refine below_set ?_ GE660.out) | exact HB.out)) hb); clear BK660; clear HB; have BK660 := n0_; have HB := n1_; clear n0_ n1_; (try clear hb); (try clear hb2); (try clear hk); (try clear hi)))
   repeat (go_quiet (first | (go_at_call 60; (with_reducible refine (spec_l08Is.calls k gb660 A0_0 c0_0 l0_0 A0_1 c0_1 l0_1 A0_2 c0_2 l0_2 a0_3 a0_4 false _ ?side1 ?side2 ?side3 ?side4 ?side5 ?side6 ?side7 A5.out).mono ?_); (case side1 => repeat (first | exact (Kd.C_below HR0_0.out HB.out) | (with_reducible refine Kd.C_alloc ?_ _) | (with_reducible refine Kd.C_drewN ?_ _) | (with_reducible refine Kd.C_drew ?_))); (case side2 => exact HC0_0.out); (case side3 => repeat (first | exact (Kd.C_below HR0_1.out HB.out) | (with_reducible refine Kd.C_alloc ?_ _) | (with_reducible refine Kd.C_drewN ?_ _) | (with_reducible refine Kd.C_drew ?_))); (case side4 => exact HC0_1.out); (case side5 => repeat (first | exact (Kd.C_below HR0_2.out HB.out) | (with_reducible refine Kd.C_alloc ?_ _) | (with_reducible refine Kd.C_drewN ?_ _) | (with_reducible refine Kd.C_drew ?_))); (case side6 => exact HC0_2.out); (case side7 => exact (by (with_reducible repeat (first | refine blk_drewN ?_ _ | refine blk_drew ?_ | refine blk_alloc ?_ _)); exact BK660.out)); rintro e w10 ⟨rfl, hb⟩; (try (have db_ : ∀ {w w' : World}, Drawn0 w w' → Below w.heap.size w w' := (by intro w w' h_; obtain ⟨n_, rfl⟩ := h_; exact pw_below_drewN (Below.refl _ _) _); replace hb := db_ hb; clear db_)); have n0_ := Aside0.mk (blk_below (g := gb660) (o := .cells #[.slice A0_0 l0_0.length c0_0, .slice A0_1 l0_1.length c0_1, .slice A0_2 l0_2.length c0_2, .int .i64 a0_3, .int .i64 a0_4] 27 (0, 0)) (by (with_reducible repeat (first | refine blk_drewN ?_ _ | refine blk_drew ?_ | refine blk_alloc ?_ _)); exact BK660.out) hb); have n1_ := Aside0.mk (below_step (by repeat (first | (with_reducible first | exact HB.out | apply below_alloc | apply pw_below_drewN | apply below_drew1 | refine below_set ?_ GE660.out) | exact HB.out)) hb); clear BK660; clear HB; have BK660 := n0_; have HB := n1_; clear n0_ n1_; (try clear hb); (try clear hb2); (try clear hk); (try clear hi))); try go_wp2_with (first | (go_at_call 60; (with_reducible refine (spec_l08Is.calls k gb660 A0_0 c0_0 l0_0 A0_1 c0_1 l0_1 A0_2 c0_2 l0_2 a0_3 a0_4 false _ ?side1 ?side2 ?side3 ?side4 ?side5 ?side6 ?side7 A5.out).mono ?_); (case side1 => repeat (first | exact (Kd.C_below HR0_0.out HB.out) | (with_reducible refine Kd.C_alloc ?_ _) | (with_reducible refine Kd.C_drewN ?_ _) | (with_reducible refine Kd.C_drew ?_))); (case side2 => exact HC0_0.out); (case side3 => repeat (first | exact (Kd.C_below HR0_1.out HB.out) | (with_reducible refine Kd.C_alloc ?_ _) | (with_reducible refine Kd.C_drewN ?_ _) | (with_reducible refine Kd.C_drew ?_))); (case side4 => exact HC0_1.out); (case side5 => repeat (first | exact (Kd.C_below HR0_2.out HB.out) | (with_reducible refine Kd.C_alloc ?_ _) | (with_reducible refine Kd.C_drewN ?_ _) | (with_reducible refine Kd.C_drew ?_))); (case side6 => exact HC0_2.out); (case side7 => exact (by (with_reducible repeat (first | refine blk_drewN ?_ _ | refine blk_drew ?_ | refine blk_alloc ?_ _)); exact BK660.out)); rintro e w10 ⟨rfl, hb⟩; (try (have db_ : ∀ {w w' : World}, Drawn0 w w' → Below w.heap.size w w' := (by intro w w' h_; obtain ⟨n_, rfl⟩ := h_; exact pw_below_drewN (Below.refl _ _) _); replace hb := db_ hb; clear db_)); have n0_ := Aside0.mk (blk_below (g := gb660) (o := .cells #[.slice A0_0 l0_0.length c0_0, .slice A0_1 l0_1.length c0_1, .slice A0_2 l0_2.length c0_2, .int .i64 a0_3, .int .i64 a0_4] 27 (0, 0)) (by (with_reducible repeat (first | refine blk_drewN ?_ _ | refine blk_drew ?_ | refine blk_alloc ?_ _)); exact BK660.out) hb); have n1_ := Aside0.mk (below_step (by repeat (first | (with_reducible first | exact HB.out | apply below_alloc | apply pw_below_drewN | apply below_drew1 | refine below_set ?_ GE660.out) | exact HB.out)) hb); clear BK660; clear HB; have BK660 := n0_; have HB := n1_; clear n0_ n1_; (try clear hb); (try clear hb2); (try clear hk); (try clear hi))))
   go_meet
   case rel => exact ⟨_, (true), (a0_3), (a0_4), (by first | rfl | (simp; done) | (simp [*]; done) | (simp [Int.tdiv_eq_ediv_of_nonneg, *]; done)), H', ⟨by first | omega | exact Nat.le_refl _⟩, ⟨by (with_reducible repeat (first | refine blk_drewN ?_ _ | refine blk_drew ?_ | refine blk_alloc ?_ _)); exact BK660.out⟩, ⟨by repeat (first | (with_reducible first | exact HB.out | apply below_alloc | apply pw_below_drewN | apply below_drew1 | refine below_set ?_ GE660.out) | exact HB.out)⟩⟩
 case rest =>
  clear HC3
  try clear c1
  try clear p2
  try clear c3
  try clear c6
  try clear p6
  try clear hcz9_0
  try clear hcz9_1
  try clear hcz9_2
  try clear hcz9_3
  try clear hcz9_4
  try clear hfz9_0
  try clear hfz9_1
  try clear hfz9_2
  try clear hfz9_3
  try clear hfz9_4
  obtain ⟨kq, x18_2, x661003_2, x661004_2, rfl, HA, HJ2, BK660, HB⟩ := hcut
  cases kq with
  | zero => exact absurd HA.out (by simp [spec_PlanFor.j0])
  | succ kj2 =>
   have H := HA.out
   clear HA
   simp only [spec_PlanFor.j0] at H
   by_cases c11 : x18_2 = true
   ·subst c11
    have H1 : (some (([] : List (S49)), false)) = some (r1, r2) := by rw [if_pos rfl] at H; exact H
    clear H
    have H := H1
    clear H1
    simp only [Option.some.injEq, Prod.mk.injEq] at H
    obtain ⟨rfl, rfl⟩ := H
    go_wp2
    repeat (go_quiet (fail); try go_wp2)
    go_ret2
    exact ⟨_, by first | rfl | (simp [errW_none, errW_some] <;> rfl) | (simp [*, errW_none, errW_some] <;> rfl) | (simp [Int.tdiv_eq_ediv_of_nonneg, *]; done), by first | exact Kd.S_nil _ _ _ _ _ | exact Kd.N_nil _ _ _ _ _ | exact Kd.V_nil _ _ _ _ _ | exact Kd.Q_nil _ _ _ _ _ | exact Kd.R_nil _ _ _ _ _, by repeat (first | (with_reducible first | exact HB.out | apply below_alloc | apply pw_below_drewN | apply below_drew1 | refine below_set ?_ GE660.out) | exact HB.out)⟩
   ·replace c11 := Bool.eq_false_iff.mpr c11
    subst c11
    have H1 : (spec_PlanFor.l0 kj2 l1 0 l0_0 l0_1 l0_2 x661003_2 x661004_2) = some (r1, r2) := by rw [if_neg (show ¬ (false = true) by decide)] at H; exact H
    clear H
    have H := H1
    clear H1
    have H' := Aside0.mk H
    clear H
    go_wp2
    repeat (go_quiet (fail); try go_wp2)
    go_loopg [6] kj2 (fun kq v6 w' => ∃ (x6_2 : Int), v6 = .int .i64 x6_2 ∧ Aside0 (spec_PlanFor.l0 kq l1 x6_2 l0_0 l0_1 l0_2 x661003_2 x661004_2 = some (r1, r2)) ∧ Aside0 (kq ≤ kj2) ∧ Aside0 (w'.heap[gb660]? = some (.cells #[(.slice A0_0 l0_0.length c0_0), (.slice A0_1 l0_1.length c0_1), (.slice A0_2 l0_2.length c0_2), .int .i64 x661003_2, .int .i64 x661004_2] 27 (0, 0))) ∧ Aside0 (Below w.heap.size w w'))
    case atStart => exact ⟨(0), (by first | rfl | (simp; done) | (simp [*]; done) | (simp [Int.tdiv_eq_ediv_of_nonneg, *]; done)), H', ⟨Nat.le_refl _⟩, ⟨by (with_reducible repeat (first | refine blk_drewN ?_ _ | refine blk_drew ?_ | refine blk_alloc ?_ _)); exact BK660.out⟩, ⟨by repeat (first | (with_reducible first | exact HB.out | apply below_alloc | apply pw_below_drewN | apply below_drew1 | refine below_set ?_ GE660.out) | exact HB.out)⟩⟩
    case round =>
     clear H'
     try clear c1
     try clear p2
     try clear c3
     try clear c6
     try clear p6
     try clear c11
     try clear hcz9_0
     try clear hcz9_1
     try clear hcz9_2
     try clear hcz9_3
     try clear hcz9_4
     try clear hfz9_0
     try clear hfz9_1
     try clear hfz9_2
     try clear hfz9_3
     try clear hfz9_4
     try clear p2
     try clear p6
     obtain ⟨x6_2, rfl, HA, HK2, BK660, HB⟩ := hrel
     cases gk with
     | zero => exact absurd HA.out (by simp [spec_PlanFor.l0])
     | succ k2 =>
      have H := HA.out
      clear HA
      simp only [spec_PlanFor.l0] at H
      by_cases c12 : x6_2 < (l1.length : Int)
      ·rw [if_pos c12] at H
       have c12b0 : decide (x6_2 < (l1.length : Int)) = true := decide_eq_true c12
       clear c12
       by_cases c13 : 0 ≤ x6_2
       ·rw [if_pos c13] at H
        have c13b0 : decide (0 ≤ x6_2) = true := decide_eq_true c13
        clear c13
        replace H := Option.bind_eq_some_iff.mp H
        obtain ⟨t664, A140, H⟩ := H
        replace H : (if t664 = true then (spec_PlanFor.l0 k2 l1 (wrap64 (x6_2 + 1)) l0_0 l0_1 l0_2 x661003_2 x661004_2) else (some (([] : List (S49)), false))) = some (r1, r2) := H
        have A14 := Aside0.mk A140
        clear A140
        by_cases c15 : t664 = true
        ·subst c15
         have H1 : (spec_PlanFor.l0 k2 l1 (wrap64 (x6_2 + 1)) l0_0 l0_1 l0_2 x661003_2 x661004_2) = some (r1, r2) := by rw [if_pos rfl] at H; exact H
         clear H
         have H := H1
         clear H1
         have H' := Aside0.mk H
         clear H
         have hcz16_0 : wr.cell? ⟨gb660, 0, none⟩ = some (.slice A0_0 l0_0.length c0_0) := (blk_cell BK660.out 0).trans rfl
         have hcz16_1 : wr.cell? ⟨gb660, 1, none⟩ = some (.slice A0_1 l0_1.length c0_1) := (blk_cell BK660.out 1).trans rfl
         have hcz16_2 : wr.cell? ⟨gb660, 2, none⟩ = some (.slice A0_2 l0_2.length c0_2) := (blk_cell BK660.out 2).trans rfl
         have hcz16_3 : wr.cell? ⟨gb660, 3, none⟩ = some (.int .i64 x661003_2) := (blk_cell BK660.out 3).trans rfl
         have hcz16_4 : wr.cell? ⟨gb660, 4, none⟩ = some (.int .i64 x661004_2) := (blk_cell BK660.out 4).trans rfl
         have hfz16_0 := blk_frozen BK660.out 0
         have hfz16_1 := blk_frozen BK660.out 1
         have hfz16_2 := blk_frozen BK660.out 2
         have hfz16_3 := blk_frozen BK660.out 3
         have hfz16_4 := blk_frozen BK660.out 4
         have p663 : 0 ≤ (x6_2 : Int) := of_decide_eq_true (by first | (with_reducible assumption) | assumption)
         have q663 : x6_2 < (l1.length : Int) := of_decide_eq_true (by first | (with_reducible assumption) | assumption)
         obtain ⟨ad663, e663, hx663_0⟩ := Kd.at_int HR1.out x6_2 p663 q663
         cases e663
         replace hx663_0 := (HB.out.cell (World.block_lt_of_cell? w _ hx663_0)).trans hx663_0
         replace p663 := eq_true p663
         replace q663 := eq_true q663
         go_wp2_with (first | (go_at_call 71; (with_reducible refine (spec_l00Has.calls k2 _ _ l0_2 (rd l1 x6_2) true _ ?side1 ?side2 A14.out).mono ?_); (case side1 => repeat (first | exact (Kd.C_below HR0_2.out HB.out) | (with_reducible refine Kd.C_alloc ?_ _) | (with_reducible refine Kd.C_drewN ?_ _) | (with_reducible refine Kd.C_drew ?_))); (case side2 => exact HC0_2.out); rintro e w' ⟨rfl, ⟨nd, rfl⟩⟩; (try first | exact ⟨rfl, _, World.drewN_drewN _ _ _⟩ | exact ⟨rfl, _, Eq.trans (World.drewN_drewN _ _ _) (congrArg (World.drewN _) (Nat.add_assoc _ _ _))⟩)))
         repeat (go_quiet (first | (go_at_call 71; (with_reducible refine (spec_l00Has.calls k2 _ _ l0_2 (rd l1 x6_2) true _ ?side1 ?side2 A14.out).mono ?_); (case side1 => repeat (first | exact (Kd.C_below HR0_2.out HB.out) | (with_reducible refine Kd.C_alloc ?_ _) | (with_reducible refine Kd.C_drewN ?_ _) | (with_reducible refine Kd.C_drew ?_))); (case side2 => exact HC0_2.out); rintro e w' ⟨rfl, ⟨nd, rfl⟩⟩; (try first | exact ⟨rfl, _, World.drewN_drewN _ _ _⟩ | exact ⟨rfl, _, Eq.trans (World.drewN_drewN _ _ _) (congrArg (World.drewN _) (Nat.add_assoc _ _ _))⟩))); try go_wp2_with (first | (go_at_call 71; (with_reducible refine (spec_l00Has.calls k2 _ _ l0_2 (rd l1 x6_2) true _ ?side1 ?side2 A14.out).mono ?_); (case side1 => repeat (first | exact (Kd.C_below HR0_2.out HB.out) | (with_reducible refine Kd.C_alloc ?_ _) | (with_reducible refine Kd.C_drewN ?_ _) | (with_reducible refine Kd.C_drew ?_))); (case side2 => exact HC0_2.out); rintro e w' ⟨rfl, ⟨nd, rfl⟩⟩; (try first | exact ⟨rfl, _, World.drewN_drewN _ _ _⟩ | exact ⟨rfl, _, Eq.trans (World.drewN_drewN _ _ _) (congrArg (World.drewN _) (Nat.add_assoc _ _ _))⟩))))
         go_roundg k2
         case measure => have := HJ2.out; have := HK2.out; omega
         case rel => exact ⟨(wrap64 (x6_2 + 1)), (by first | rfl | (simp; done) | (simp [*]; done) | (simp [Int.tdiv_eq_ediv_of_nonneg, *]; done)), H', ⟨by have := HJ2.out; have := HK2.out; omega⟩, ⟨by (with_reducible repeat (first | refine blk_drewN ?_ _ | refine blk_drew ?_ | refine blk_alloc ?_ _)); exact BK660.out⟩, ⟨by repeat (first | (with_reducible first | exact HB.out | apply below_alloc | apply pw_below_drewN | apply below_drew1 | refine below_set ?_ GE660.out) | exact HB.out)⟩⟩
        ·replace c15 := Bool.eq_false_iff.mpr c15
         subst c15
         have H1 : (some (([] : List (S49)), false)) = some (r1, r2) := by rw [if_neg (show ¬ (false = true) by decide)] at H; exact H
         clear H
         have H := H1
         clear H1
         simp only [Option.some.injEq, Prod.mk.injEq] at H
         obtain ⟨rfl, rfl⟩ := H
         have hcz17_0 : wr.cell? ⟨gb660, 0, none⟩ = some (.slice A0_0 l0_0.length c0_0) := (blk_cell BK660.out 0).trans rfl
         have hcz17_1 : wr.cell? ⟨gb660, 1, none⟩ = some (.slice A0_1 l0_1.length c0_1) := (blk_cell BK660.out 1).trans rfl
         have hcz17_2 : wr.cell? ⟨gb660, 2, none⟩ = some (.slice A0_2 l0_2.length c0_2) := (blk_cell BK660.out 2).trans rfl
         have hcz17_3 : wr.cell? ⟨gb660, 3, none⟩ = some (.int .i64 x661003_2) := (blk_cell BK660.out 3).trans rfl
         have hcz17_4 : wr.cell? ⟨gb660, 4, none⟩ = some (.int .i64 x661004_2) := (blk_cell BK660.out 4).trans rfl
         have hfz17_0 := blk_frozen BK660.out 0
         have hfz17_1 := blk_frozen BK660.out 1
         have hfz17_2 := blk_frozen BK660.out 2
         have hfz17_3 := blk_frozen BK660.out 3
         have hfz17_4 := blk_frozen BK660.out 4
         have p663 : 0 ≤ (x6_2 : Int) := of_decide_eq_true (by first | (with_reducible assumption) | assumption)
         have q663 : x6_2 < (l1.length : Int) := of_decide_eq_true (by first | (with_reducible assumption) | assumption)
         obtain ⟨ad663, e663, hx663_0⟩ := Kd.at_int HR1.out x6_2 p663 q663
         cases e663
         replace hx663_0 := (HB.out.cell (World.block_lt_of_cell? w _ hx663_0)).trans hx663_0
         replace p663 := eq_true p663
         replace q663 := eq_true q663
         go_wp2_with (first | (go_at_call 71; (with_reducible refine (spec_l00Has.calls k2 _ _ l0_2 (rd l1 x6_2) false _ ?side1 ?side2 A14.out).mono ?_); (case side1 => repeat (first | exact (Kd.C_below HR0_2.out HB.out) | (with_reducible refine Kd.C_alloc ?_ _) | (with_reducible refine Kd.C_drewN ?_ _) | (with_reducible refine Kd.C_drew ?_))); (case side2 => exact HC0_2.out); rintro e w' ⟨rfl, ⟨nd, rfl⟩⟩; (try first | exact ⟨rfl, _, World.drewN_drewN _ _ _⟩ | exact ⟨rfl, _, Eq.trans (World.drewN_drewN _ _ _) (congrArg (World.drewN _) (Nat.add_assoc _ _ _))⟩)))
         repeat (go_quiet (first | (go_at_call 71; (with_reducible refine (spec_l00Has.calls k2 _ _ l0_2 (rd l1 x6_2) false _ ?side1 ?side2 A14.out).mono ?_); (case side1 => repeat (first | exact (Kd.C_below HR0_2.out HB.out) | (with_reducible refine Kd.C_alloc ?_ _) | (with_reducible refine Kd.C_drewN ?_ _) | (with_reducible refine Kd.C_drew ?_))); (case side2 => exact HC0_2.out); rintro e w' ⟨rfl, ⟨nd, rfl⟩⟩; (try first | exact ⟨rfl, _, World.drewN_drewN _ _ _⟩ | exact ⟨rfl, _, Eq.trans (World.drewN_drewN _ _ _) (congrArg (World.drewN _) (Nat.add_assoc _ _ _))⟩))); try go_wp2_with (first | (go_at_call 71; (with_reducible refine (spec_l00Has.calls k2 _ _ l0_2 (rd l1 x6_2) false _ ?side1 ?side2 A14.out).mono ?_); (case side1 => repeat (first | exact (Kd.C_below HR0_2.out HB.out) | (with_reducible refine Kd.C_alloc ?_ _) | (with_reducible refine Kd.C_drewN ?_ _) | (with_reducible refine Kd.C_drew ?_))); (case side2 => exact HC0_2.out); rintro e w' ⟨rfl, ⟨nd, rfl⟩⟩; (try first | exact ⟨rfl, _, World.drewN_drewN _ _ _⟩ | exact ⟨rfl, _, Eq.trans (World.drewN_drewN _ _ _) (congrArg (World.drewN _) (Nat.add_assoc _ _ _))⟩))))
         go_ret2
         exact ⟨_, by first | rfl | (simp [errW_none, errW_some] <;> rfl) | (simp [*, errW_none, errW_some] <;> rfl) | (simp [Int.tdiv_eq_ediv_of_nonneg, *]; done), by first | exact Kd.S_nil _ _ _ _ _ | exact Kd.N_nil _ _ _ _ _ | exact Kd.V_nil _ _ _ _ _ | exact Kd.Q_nil _ _ _ _ _ | exact Kd.R_nil _ _ _ _ _, by repeat (first | (with_reducible first | exact HB.out | apply below_alloc | apply pw_below_drewN | apply below_drew1 | refine below_set ?_ GE660.out) | exact HB.out)⟩
       ·rw [if_neg c13] at H
        exact absurd H (by simp)
      ·rw [if_neg c12] at H
       have c12b0 : decide (x6_2 < (l1.length : Int)) = false := decide_eq_false c12
       clear c12
       replace H := Option.bind_eq_some_iff.mp H
       obtain ⟨t665, A180, H⟩ := H
       replace H : ((spec_l08Enough.f k2 l0_0 l0_1 l0_2 x661003_2 x661004_2 t665).bind fun t668 => (if t668 = true then (some (t665, true)) else (some (([] : List (S49)), false)))) = some (r1, r2) := H
       have A18 := Aside0.mk A180
       clear A180
       replace H := Option.bind_eq_some_iff.mp H
       obtain ⟨t668, A190, H⟩ := H
       replace H : (if t668 = true then (some (t665, true)) else (some (([] : List (S49)), false))) = some (r1, r2) := H
       have A19 := Aside0.mk A190
       clear A190
       by_cases c20 : t668 = true
       ·subst c20
        have H1 : (some (t665, true)) = some (r1, r2) := by rw [if_pos rfl] at H; exact H
        clear H
        have H := H1
        clear H1
        simp only [Option.some.injEq, Prod.mk.injEq] at H
        obtain ⟨rfl, rfl⟩ := H
        go_wp2_with (first | (go_at_call 72; (with_reducible refine (spec_l08For.calls k2 gb660 A0_0 c0_0 l0_0 A0_1 c0_1 l0_1 A0_2 c0_2 l0_2 x661003_2 x661004_2 _ _ l1 t665 _ ?side1 ?side2 ?side3 ?side4 ?side5 ?side6 ?side7 ?side8 ?side9 A18.out).mono ?_); (case side1 => repeat (first | exact (Kd.C_below HR0_0.out HB.out) | (with_reducible refine Kd.C_alloc ?_ _) | (with_reducible refine Kd.C_drewN ?_ _) | (with_reducible refine Kd.C_drew ?_))); (case side2 => exact HC0_0.out); (case side3 => repeat (first | exact (Kd.C_below HR0_1.out HB.out) | (with_reducible refine Kd.C_alloc ?_ _) | (with_reducible refine Kd.C_drewN ?_ _) | (with_reducible refine Kd.C_drew ?_))); (case side4 => exact HC0_1.out); (case side5 => repeat (first | exact (Kd.C_below HR0_2.out HB.out) | (with_reducible refine Kd.C_alloc ?_ _) | (with_reducible refine Kd.C_drewN ?_ _) | (with_reducible refine Kd.C_drew ?_))); (case side6 => exact HC0_2.out); (case side7 => repeat (first | exact (Kd.C_below HR1.out HB.out) | (with_reducible refine Kd.C_alloc ?_ _) | (with_reducible refine Kd.C_drewN ?_ _) | (with_reducible refine Kd.C_drew ?_))); (case side8 => exact HC1.out); (case side9 => exact (by (with_reducible repeat (first | refine blk_drewN ?_ _ | refine blk_drew ?_ | refine blk_alloc ?_ _)); exact BK660.out)); rintro e w21 ⟨v666, rfl, ho0, hb⟩; have n0_ := Aside0.mk (Kd.S_lower ho0 (below_size (by repeat (first | (with_reducible first | exact HB.out | apply below_alloc | apply pw_below_drewN | apply below_drew1 | refine below_set ?_ GE660.out) | exact HB.out)))); have n1_ := Aside0.mk (blk_below (g := gb660) (o := .cells #[.slice A0_0 l0_0.length c0_0, .slice A0_1 l0_1.length c0_1, .slice A0_2 l0_2.length c0_2, .int .i64 x661003_2, .int .i64 x661004_2] 27 (0, 0)) (by (with_reducible repeat (first | refine blk_drewN ?_ _ | refine blk_drew ?_ | refine blk_alloc ?_ _)); exact BK660.out) hb); have n2_ := Aside0.mk (below_step (by repeat (first | (with_reducible first | exact HB.out | apply below_alloc | apply pw_below_drewN | apply below_drew1 | refine below_set ?_ GE660.out) | exact HB.out)) hb); clear BK660; clear HB; have HO667 := n0_; have BK660 := n1_; have HB := n2_; clear n0_ n1_ n2_; (try clear hb); (try clear hb2); (try clear hk); (try clear hi); (try clear ho0); obtain ⟨Ao22, co22, eo22⟩ := Kd.S_slice HO667.out; subst eo22) | (go_at_call 73; (with_reducible refine (spec_l08Enough.calls k2 gb660 A0_0 c0_0 l0_0 A0_1 c0_1 l0_1 A0_2 c0_2 l0_2 x661003_2 x661004_2 _ _ t665 true _ ?side1 ?side2 ?side3 ?side4 ?side5 ?side6 ?side7 ?side8 ?side9 A19.out).mono ?_); (case side1 => repeat (first | exact (Kd.C_below HR0_0.out HB.out) | (with_reducible refine Kd.C_alloc ?_ _) | (with_reducible refine Kd.C_drewN ?_ _) | (with_reducible refine Kd.C_drew ?_))); (case side2 => exact HC0_0.out); (case side3 => repeat (first | exact (Kd.C_below HR0_1.out HB.out) | (with_reducible refine Kd.C_alloc ?_ _) | (with_reducible refine Kd.C_drewN ?_ _) | (with_reducible refine Kd.C_drew ?_))); (case side4 => exact HC0_1.out); (case side5 => repeat (first | exact (Kd.C_below HR0_2.out HB.out) | (with_reducible refine Kd.C_alloc ?_ _) | (with_reducible refine Kd.C_drewN ?_ _) | (with_reducible refine Kd.C_drew ?_))); (case side6 => exact HC0_2.out); (case side7 => repeat (first | exact (Kd.S_reads' HO667.out).2.2 | (with_reducible refine Kd.C_alloc ?_ _) | (with_reducible refine Kd.C_drewN ?_ _) | (with_reducible refine Kd.C_drew ?_))); (case side8 => exact (Kd.S_reads' HO667.out).2.1); (case side9 => exact (by (with_reducible repeat (first | refine blk_drewN ?_ _ | refine blk_drew ?_ | refine blk_alloc ?_ _)); exact BK660.out)); rintro e w23 ⟨rfl, hb⟩; have n0_ := Aside0.mk (Kd.S_below (by (with_reducible repeat (first | apply Kd.S_alloc | apply Kd.S_drewN | apply Kd.S_drew)); exact HO667.out) hb); have n1_ := Aside0.mk (blk_below (g := gb660) (o := .cells #[.slice A0_0 l0_0.length c0_0, .slice A0_1 l0_1.length c0_1, .slice A0_2 l0_2.length c0_2, .int .i64 x661003_2, .int .i64 x661004_2] 27 (0, 0)) (by (with_reducible repeat (first | refine blk_drewN ?_ _ | refine blk_drew ?_ | refine blk_alloc ?_ _)); exact BK660.out) hb); have n2_ := Aside0.mk (below_step (by repeat (first | (with_reducible first | exact HB.out | apply below_alloc | apply pw_below_drewN | apply below_drew1 | refine below_set ?_ GE660.out) | exact HB.out)) hb); clear HO667; clear BK660; clear HB; have HO667 := n0_; have BK660 := n1_; have HB := n2_; clear n0_ n1_ n2_; (try clear hb); (try clear hb2); (try clear hk); (try clear hi)))
        repeat (go_quiet (first | (go_at_call 72; (with_reducible refine (spec_l08For.calls k2 gb660 A0_0 c0_0 l0_0 A0_1 c0_1 l0_1 A0_2 c0_2 l0_2 x661003_2 x661004_2 _ _ l1 t665 _ ?side1 ?side2 ?side3 ?side4 ?side5 ?side6 ?side7 ?side8 ?side9 A18.out).mono ?_); (case side1 => repeat (first | exact (Kd.C_below HR0_0.out HB.out) | (with_reducible refine Kd.C_alloc ?_ _) | (with_reducible refine Kd.C_drewN ?_ _) | (with_reducible refine Kd.C_drew ?_))); (case side2 => exact HC0_0.out); (case side3 => repeat (first | exact (Kd.C_below HR0_1.out HB.out) | (with_reducible refine Kd.C_alloc ?_ _) | (with_reducible refine Kd.C_drewN ?_ _) | (with_reducible refine Kd.C_drew ?_))); (case side4 => exact HC0_1.out); (case side5 => repeat (first | exact (Kd.C_below HR0_2.out HB.out) | (with_reducible refine Kd.C_alloc ?_ _) | (with_reducible refine Kd.C_drewN ?_ _) | (with_reducible refine Kd.C_drew ?_))); (case side6 => exact HC0_2.out); (case side7 => repeat (first | exact (Kd.C_below HR1.out HB.out) | (with_reducible refine Kd.C_alloc ?_ _) | (with_reducible refine Kd.C_drewN ?_ _) | (with_reducible refine Kd.C_drew ?_))); (case side8 => exact HC1.out); (case side9 => exact (by (with_reducible repeat (first | refine blk_drewN ?_ _ | refine blk_drew ?_ | refine blk_alloc ?_ _)); exact BK660.out)); rintro e w21 ⟨v666, rfl, ho0, hb⟩; have n0_ := Aside0.mk (Kd.S_lower ho0 (below_size (by repeat (first | (with_reducible first | exact HB.out | apply below_alloc | apply pw_below_drewN | apply below_drew1 | refine below_set ?_ GE660.out) | exact HB.out)))); have n1_ := Aside0.mk (blk_below (g := gb660) (o := .cells #[.slice A0_0 l0_0.length c0_0, .slice A0_1 l0_1.length c0_1, .slice A0_2 l0_2.length c0_2, .int .i64 x661003_2, .int .i64 x661004_2] 27 (0, 0)) (by (with_reducible repeat (first | refine blk_drewN ?_ _ | refine blk_drew ?_ | refine blk_alloc ?_ _)); exact BK660.out) hb); have n2_ := Aside0.mk (below_step (by repeat (first | (with_reducible first | exact HB.out | apply below_alloc | apply pw_below_drewN | apply below_drew1 | refine below_set ?_ GE660.out) | exact HB.out)) hb); clear BK660; clear HB; have HO667 := n0_; have BK660 := n1_; have HB := n2_; clear n0_ n1_ n2_; (try clear hb); (try clear hb2); (try clear hk); (try clear hi); (try clear ho0); obtain ⟨Ao22, co22, eo22⟩ := Kd.S_slice HO667.out; subst eo22) | (go_at_call 73; (with_reducible refine (spec_l08Enough.calls k2 gb660 A0_0 c0_0 l0_0 A0_1 c0_1 l0_1 A0_2 c0_2 l0_2 x661003_2 x661004_2 _ _ t665 true _ ?side1 ?side2 ?side3 ?side4 ?side5 ?side6 ?side7 ?side8 ?side9 A19.out).mono ?_); (case side1 => repeat (first | exact (Kd.C_below HR0_0.out HB.out) | (with_reducible refine Kd.C_alloc ?_ _) | (with_reducible refine Kd.C_drewN ?_ _) | (with_reducible refine Kd.C_drew ?_))); (case side2 => exact HC0_0.out); (case side3 => repeat (first | exact (Kd.C_below HR0_1.out HB.out) | (with_reducible refine Kd.C_alloc ?_ _) | (with_reducible refine Kd.C_drewN ?_ _) | (with_reducible refine Kd.C_drew ?_))); (case side4 => exact HC0_1.out); (case side5 => repeat (first | exact (Kd.C_below HR0_2.out HB.out) | (with_reducible refine Kd.C_alloc ?_ _) | (with_reducible refine Kd.C_drewN ?_ _) | (with_reducible refine Kd.C_drew ?_))); (case side6 => exact HC0_2.out); (case side7 => repeat (first | exact (Kd.S_reads' HO667.out).2.2 | (with_reducible refine Kd.C_alloc ?_ _) | (with_reducible refine Kd.C_drewN ?_ _) | (with_reducible refine Kd.C_drew ?_))); (case side8 => exact (Kd.S_reads' HO667.out).2.1); (case side9 => exact (by (with_reducible repeat (first | refine blk_drewN ?_ _ | refine blk_drew ?_ | refine blk_alloc ?_ _)); exact BK660.out)); rintro e w23 ⟨rfl, hb⟩; have n0_ := Aside0.mk (Kd.S_below (by (with_reducible repeat (first | apply Kd.S_alloc | apply Kd.S_drewN | apply Kd.S_drew)); exact HO667.out) hb); have n1_ := Aside0.mk (blk_below (g := gb660) (o := .cells #[.slice A0_0 l0_0.length c0_0, .slice A0_1 l0_1.length c0_1, .slice A0_2 l0_2.length c0_2, .int .i64 x661003_2, .int .i64 x661004_2] 27 (0, 0)) (by (with_reducible repeat (first | refine blk_drewN ?_ _ | refine blk_drew ?_ | refine blk_alloc ?_ _)); exact BK660.out) hb); have n2_ := Aside0.mk (below_step (by repeat (first | (with_reducible first | exact HB.out | apply below_alloc | apply pw_below_drewN | apply below_drew1 | refine below_set ?_ GE660.out) | exact HB.out)) hb); clear HO667; clear BK660; clear HB; have HO667 := n0_; have BK660 := n1_; have HB := n2_; clear n0_ n1_ n2_; (try clear hb); (try clear hb2); (try clear hk); (try clear hi))); try go_wp2_with (first | (go_at_call 72; (with_reducible refine (spec_l08For.calls k2 gb660 A0_0 c0_0 l0_0 A0_1 c0_1 l0_1 A0_2 c0_2 l0_2 x661003_2 x661004_2 _ _ l1 t665 _ ?side1 ?side2 ?side3 ?side4 ?side5 ?side6 ?side7 ?side8 ?side9 A18.out).mono ?_); (case side1 => repeat (first | exact (Kd.C_below HR0_0.out HB.out) | (with_reducible refine Kd.C_alloc ?_ _) | (with_reducible refine Kd.C_drewN ?_ _) | (with_reducible refine Kd.C_drew ?_))); (case side2 => exact HC0_0.out); (case side3 => repeat (first | exact (Kd.C_below HR0_1.out HB.out) | (with_reducible refine Kd.C_alloc ?_ _) | (with_reducible refine Kd.C_drewN ?_ _) | (with_reducible refine Kd.C_drew ?_))); (case side4 => exact HC0_1.out); (case side5 => repeat (first | exact (Kd.C_below HR0_2.out HB.out) | (with_reducible refine Kd.C_alloc ?_ _) | (with_reducible refine Kd.C_drewN ?_ _) | (with_reducible refine Kd.C_drew ?_))); (case side6 => exact HC0_2.out); (case side7 => repeat (first | exact (Kd.C_below HR1.out HB.out) | (with_reducible refine Kd.C_alloc ?_ _) | (with_reducible refine Kd.C_drewN ?_ _) | (with_reducible refine Kd.C_drew ?_))); (case side8 => exact HC1.out); (case side9 => exact (by (with_reducible repeat (first | refine blk_drewN ?_ _ | refine blk_drew ?_ | refine blk_alloc ?_ _)); exact BK660.out)); rintro e w21 ⟨v666, rfl, ho0, hb⟩; have n0_ := Aside0.mk (Kd.S_lower ho0 (below_size (by repeat (first | (with_reducible first | exact HB.out | apply below_alloc | apply pw_below_drewN | apply below_drew1 | refine below_set ?_ GE660.out) | exact HB.out)))); have n1_ := Aside0.mk (blk_below (g := gb660) (o := .cells #[.slice A0_0 l0_0.length c0_0, .slice A0_1 l0_1.length c0_1, .slice A0_2 l0_2.length c0_2, .int .i64 x661003_2, .int .i64 x661004_2] 27 (0, 0)) (by (with_reducible repeat (first | refine blk_drewN ?_ _ | refine blk_drew ?_ | refine blk_alloc ?_ _)); exact BK660.out) hb); have n2_ := Aside0.mk (below_step (by repeat (first | (with_reducible first | exact HB.out | apply below_alloc | apply pw_below_drewN | apply below_drew1 | refine below_set ?_ GE660.out) | exact HB.out)) hb); clear BK660; clear HB; have HO667 := n0_; have BK660 := n1_; have HB := n2_; clear n0_ n1_ n2_; (try clear hb); (try clear hb2); (try clear hk); (try clear hi); (try clear ho0); obtain ⟨Ao22, co22, eo22⟩ := Kd.S_slice HO667.out; subst eo22) | (go_at_call 73; (with_reducible refine (spec_l08Enough.calls k2 gb660 A0_0 c0_0 l0_0 A0_1 c0_1 l0_1 A0_2 c0_2 l0_2 x661003_2 x661004_2 _ _ t665 true _ ?side1 ?side2 ?side3 ?side4 ?side5 ?side6 ?side7 ?side8 ?side9 A19.out).mono ?_); (case side1 => repeat (first | exact (Kd.C_below HR0_0.out HB.out) | (with_reducible refine Kd.C_alloc ?_ _) | (with_reducible refine Kd.C_drewN ?_ _) | (with_reducible refine Kd.C_drew ?_))); (case side2 => exact HC0_0.out); (case side3 => repeat (first | exact (Kd.C_below HR0_1.out HB.out) | (with_reducible refine Kd.C_alloc ?_ _) | (with_reducible refine Kd.C_drewN ?_ _) | (with_reducible refine Kd.C_drew ?_))); (case side4 => exact HC0_1.out); (case side5 => repeat (first | exact (Kd.C_below HR0_2.out HB.out) | (with_reducible refine Kd.C_alloc ?_ _) | (with_reducible refine Kd.C_drewN ?_ _) | (with_reducible refine Kd.C_drew ?_))); (case side6 => exact HC0_2.out); (case side7 => repeat (first | exact (Kd.S_reads' HO667.out).2.2 | (with_reducible refine Kd.C_alloc ?_ _) | (with_reducible refine Kd.C_drewN ?_ _) | (with_reducible refine Kd.C_drew ?_))); (case side8 => exact (Kd.S_reads' HO667.out).2.1); (case side9 => exact (by (with_reducible repeat (first | refine blk_drewN ?_ _ | refine blk_drew ?_ | refine blk_alloc ?_ _)); exact BK660.out)); rintro e w23 ⟨rfl, hb⟩; have n0_ := Aside0.mk (Kd.S_below (by (with_reducible repeat (first | apply Kd.S_alloc | apply Kd.S_drewN | apply Kd.S_drew)); exact HO667.out) hb); have n1_ := Aside0.mk (blk_below (g := gb660) (o := .cells #[.slice A0_0 l0_0.length c0_0, .slice A0_1 l0_1.length c0_1, .slice A0_2 l0_2.length c0_2, .int .i64 x661003_2, .int .i64 x661004_2] 27 (0, 0)) (by (with_reducible repeat (first | refine blk_drewN ?_ _ | refine blk_drew ?_ | refine blk_alloc ?_ _)); exact BK660.out) hb); have n2_ := Aside0.mk (below_step (by repeat (first | (with_reducible first | exact HB.out | apply below_alloc | apply pw_below_drewN | apply below_drew1 | refine below_set ?_ GE660.out) | exact HB.out)) hb); clear HO667; clear BK660; clear HB; have HO667 := n0_; have BK660 := n1_; have HB := n2_; clear n0_ n1_ n2_; (try clear hb); (try clear hb2); (try clear hk); (try clear hi))))
        go_ret2
        exact ⟨_, by first | rfl | (simp [errW_none, errW_some] <;> rfl) | (simp [*, errW_none, errW_some] <;> rfl) | (simp [Int.tdiv_eq_ediv_of_nonneg, *]; done), by (with_reducible repeat (first | apply Kd.S_alloc | apply Kd.S_drewN | apply Kd.S_drew)); exact HO667.out, by repeat (first | (with_reducible first | exact HB.out | apply below_alloc | apply pw_below_drewN | apply below_drew1 | refine below_set ?_ GE660.out) | exact HB.out)⟩
       ·replace c20 := Bool.eq_false_iff.mpr c20
        subst c20
        have H1 : (some (([] : List (S49)), false)) = some (r1, r2) := by rw [if_neg (show ¬ (false = true) by decide)] at H; exact H
        clear H
        have H := H1
        clear H1
        simp only [Option.some.injEq, Prod.mk.injEq] at H
        obtain ⟨rfl, rfl⟩ := H
        go_wp2_with (first | (go_at_call 72; (with_reducible refine (spec_l08For.calls k2 gb660 A0_0 c0_0 l0_0 A0_1 c0_1 l0_1 A0_2 c0_2 l0_2 x661003_2 x661004_2 _ _ l1 t665 _ ?side1 ?side2 ?side3 ?side4 ?side5 ?side6 ?side7 ?side8 ?side9 A18.out).mono ?_); (case side1 => repeat (first | exact (Kd.C_below HR0_0.out HB.out) | (with_reducible refine Kd.C_alloc ?_ _) | (with_reducible refine Kd.C_drewN ?_ _) | (with_reducible refine Kd.C_drew ?_))); (case side2 => exact HC0_0.out); (case side3 => repeat (first | exact (Kd.C_below HR0_1.out HB.out) | (with_reducible refine Kd.C_alloc ?_ _) | (with_reducible refine Kd.C_drewN ?_ _) | (with_reducible refine Kd.C_drew ?_))); (case side4 => exact HC0_1.out); (case side5 => repeat (first | exact (Kd.C_below HR0_2.out HB.out) | (with_reducible refine Kd.C_alloc ?_ _) | (with_reducible refine Kd.C_drewN ?_ _) | (with_reducible refine Kd.C_drew ?_))); (case side6 => exact HC0_2.out); (case side7 => repeat (first | exact (Kd.C_below HR1.out HB.out) | (with_reducible refine Kd.C_alloc ?_ _) | (with_reducible refine Kd.C_drewN ?_ _) | (with_reducible refine Kd.C_drew ?_))); (case side8 => exact HC1.out); (case side9 => exact (by (with_reducible repeat (first | refine blk_drewN ?_ _ | refine blk_drew ?_ | refine blk_alloc ?_ _)); exact BK660.out)); rintro e w24 ⟨v666, rfl, ho0, hb⟩; have n0_ := Aside0.mk (Kd.S_lower ho0 (below_size (by repeat (first | (with_reducible first | exact HB.out | apply below_alloc | apply pw_below_drewN | apply below_drew1 | refine below_set ?_ GE660.out) | exact HB.out)))); have n1_ := Aside0.mk (blk_below (g := gb660) (o := .cells #[.slice A0_0 l0_0.length c0_0, .slice A0_1 l0_1.length c0_1, .slice A0_2 l0_2.length c0_2, .int .i64 x661003_2, .int .i64 x661004_2] 27 (0, 0)) (by (with_reducible repeat (first | refine blk_drewN ?_ _ | refine blk_drew ?_ | refine blk_alloc ?_ _)); exact BK660.out) hb); have n2_ := Aside0.mk (below_step (by repeat (first | (with_reducible first | exact HB.out | apply below_alloc | apply pw_below_drewN | apply below_drew1 | refine below_set ?_ GE660.out) | exact HB.out)) hb); clear BK660; clear HB; have HO667 := n0_; have BK660 := n1_; have HB := n2_; clear n0_ n1_ n2_; (try clear hb); (try clear hb2); (try clear hk); (try clear hi); (try clear ho0); obtain ⟨Ao25, co25, eo25⟩ := Kd.S_slice HO667.out; subst eo25) | (go_at_call 73; (with_reducible refine (spec_l08Enough.calls k2 gb660 A0_0 c0_0 l0_0 A0_1 c0_1 l0_1 A0_2 c0_2 l0_2 x661003_2 x661004_2 _ _ t665 false _ ?side1 ?side2 ?side3 ?side4 ?side5 ?side6 ?side7 ?side8 ?side9 A19.out).mono ?_); (case side1 => repeat (first | exact (Kd.C_below HR0_0.out HB.out) | (with_reducible refine Kd.C_alloc ?_ _) | (with_reducible refine Kd.C_drewN ?_ _) | (with_reducible refine Kd.C_drew ?_))); (case side2 => exact HC0_0.out); (case side3 => repeat (first | exact (Kd.C_below HR0_1.out HB.out) | (with_reducible refine Kd.C_alloc ?_ _) | (with_reducible refine Kd.C_drewN ?_ _) | (with_reducible refine Kd.C_drew ?_))); (case side4 => exact HC0_1.out); (case side5 => repeat (first | exact (Kd.C_below HR0_2.out HB.out) | (with_reducible refine Kd.C_alloc ?_ _) | (with_reducible refine Kd.C_drewN ?_ _) | (with_reducible refine Kd.C_drew ?_))); (case side6 => exact HC0_2.out); (case side7 => repeat (first | exact (Kd.S_reads' HO667.out).2.2 | (with_reducible refine Kd.C_alloc ?_ _) | (with_reducible refine Kd.C_drewN ?_ _) | (with_reducible refine Kd.C_drew ?_))); (case side8 => exact (Kd.S_reads' HO667.out).2.1); (case side9 => exact (by (with_reducible repeat (first | refine blk_drewN ?_ _ | refine blk_drew ?_ | refine blk_alloc ?_ _)); exact BK660.out)); rintro e w26 ⟨rfl, hb⟩; have n0_ := Aside0.mk (Kd.S_below (by (with_reducible repeat (first | apply Kd.S_alloc | apply Kd.S_drewN | apply Kd.S_drew)); exact HO667.out) hb); have n1_ := Aside0.mk (blk_below (g := gb660) (o := .cells #[.slice A0_0 l0_0.length c0_0, .slice A0_1 l0_1.length c0_1, .slice A0_2 l0_2.length c0_2, .int .i64 x661003_2, .int .i64 x661004_2] 27 (0, 0)) (by (with_reducible repeat (first | refine blk_drewN ?_ _ | refine blk_drew ?_ | refine blk_alloc ?_ _)); exact BK660.out) hb); have n2_ := Aside0.mk (below_step (by repeat (first | (with_reducible first | exact HB.out | apply below_alloc | apply pw_below_drewN | apply below_drew1 | refine below_set ?_ GE660.out) | exact HB.out)) hb); clear HO667; clear BK660; clear HB; have HO667 := n0_; have BK660 := n1_; have HB := n2_; clear n0_ n1_ n2_; (try clear hb); (try clear hb2); (try clear hk); (try clear hi)))
        repeat (go_quiet (first | (go_at_call 72; (with_reducible refine (spec_l08For.calls k2 gb660 A0_0 c0_0 l0_0 A0_1 c0_1 l0_1 A0_2 c0_2 l0_2 x661003_2 x661004_2 _ _ l1 t665 _ ?side1 ?side2 ?side3 ?side4 ?side5 ?side6 ?side7 ?side8 ?side9 A18.out).mono ?_); (case side1 => repeat (first | exact (Kd.C_below HR0_0.out HB.out) | (with_reducible refine Kd.C_alloc ?_ _) | (with_reducible refine Kd.C_drewN ?_ _) | (with_reducible refine Kd.C_drew ?_))); (case side2 => exact HC0_0.out); (case side3 => repeat (first | exact (Kd.C_below HR0_1.out HB.out) | (with_reducible refine Kd.C_alloc ?_ _) | (with_reducible refine Kd.C_drewN ?_ _) | (with_reducible refine Kd.C_drew ?_))); (case side4 => exact HC0_1.out); (case side5 => repeat (first | exact (Kd.C_below HR0_2.out HB.out) | (with_reducible refine Kd.C_alloc ?_ _) | (with_reducible refine Kd.C_drewN ?_ _) | (with_reducible refine Kd.C_drew ?_))); (case side6 => exact HC0_2.out); (case side7 => repeat (first | exact (Kd.C_below HR1.out HB.out) | (with_reducible refine Kd.C_alloc ?_ _) | (with_reducible refine Kd.C_drewN ?_ _) | (with_reducible refine Kd.C_drew ?_))); (case side8 => exact HC1.out); (case side9 => exact (by (with_reducible repeat (first | refine blk_drewN ?_ _ | refine blk_drew ?_ | refine blk_alloc ?_ _)); exact BK660.out)); rintro e w24 ⟨v666, rfl, ho0, hb⟩; have n0_ := Aside0.mk (Kd.S_lower ho0 (below_size (by repeat (first | (with_reducible first | exact HB.out | apply below_alloc | apply pw_below_drewN | apply below_drew1 | refine below_set ?_ GE660.out) | exact HB.out)))); have n1_ := Aside0.mk (blk_below (g := gb660) (o := .cells #[.slice A0_0 l0_0.length c0_0, .slice A0_1 l0_1.length c0_1, .slice A0_2 l0_2.length c0_2, .int .i64 x661003_2, .int .i64 x661004_2] 27 (0, 0)) (by (with_reducible repeat (first | refine blk_drewN ?_ _ | refine blk_drew ?_ | refine blk_alloc ?_ _)); exact BK660.out) hb); have n2_ := Aside0.mk (below_step (by repeat (first | (with_reducible first | exact HB.out | apply below_alloc | apply pw_below_drewN | apply below_drew1 | refine below_set ?_ GE660.out) | exact HB.out)) hb); clear BK660; clear HB; have HO667 := n0_; have BK660 := n1_; have HB := n2_; clear n0_ n1_ n2_; (try clear hb); (try clear hb2); (try clear hk); (try clear hi); (try clear ho0); obtain ⟨Ao25, co25, eo25⟩ := Kd.S_slice HO667.out; subst eo25) | (go_at_call 73; (with_reducible refine (spec_l08Enough.calls k2 gb660 A0_0 c0_0 l0_0 A0_1 c0_1 l0_1 A0_2 c0_2 l0_2 x661003_2 x661004_2 _ _ t665 false _ ?side1 ?side2 ?side3 ?side4 ?side5 ?side6 ?side7 ?side8 ?side9 A19.out).mono ?_); (case side1 => repeat (first | exact (Kd.C_below HR0_0.out HB.out) | (with_reducible refine Kd.C_alloc ?_ _) | (with_reducible refine Kd.C_drewN ?_ _) | (with_reducible refine Kd.C_drew ?_))); (case side2 => exact HC0_0.out); (case side3 => repeat (first | exact (Kd.C_below HR0_1.out HB.out) | (with_reducible refine Kd.C_alloc ?_ _) | (with_reducible refine Kd.C_drewN ?_ _) | (with_reducible refine Kd.C_drew ?_))); (case side4 => exact HC0_1.out); (case side5 => repeat (first | exact (Kd.C_below HR0_2.out HB.out) | (with_reducible refine Kd.C_alloc ?_ _) | (with_reducible refine Kd.C_drewN ?_ _) | (with_reducible refine Kd.C_drew ?_))); (case side6 => exact HC0_2.out); (case side7 => repeat (first | exact (Kd.S_reads' HO667.out).2.2 | (with_reducible refine Kd.C_alloc ?_ _) | (with_reducible refine Kd.C_drewN ?_ _) | (with_reducible refine Kd.C_drew ?_))); (case side8 => exact (Kd.S_reads' HO667.out).2.1); (case side9 => exact (by (with_reducible repeat (first | refine blk_drewN ?_ _ | refine blk_drew ?_ | refine blk_alloc ?_ _)); exact BK660.out)); rintro e w26 ⟨rfl, hb⟩; have n0_ := Aside0.mk (Kd.S_below (by (with_reducible repeat (first | apply Kd.S_alloc | apply Kd.S_drewN | apply Kd.S_drew)); exact HO667.out) hb); have n1_ := Aside0.mk (blk_below (g := gb660) (o := .cells #[.slice A0_0 l0_0.length c0_0, .slice A0_1 l0_1.length c0_1, .slice A0_2 l0_2.length c0_2, .int .i64 x661003_2, .int .i64 x661004_2] 27 (0, 0)) (by (with_reducible repeat (first | refine blk_drewN ?_ _ | refine blk_drew ?_ | refine blk_alloc ?_ _)); exact BK660.out) hb); have n2_ := Aside0.mk (below_step (by repeat (first | (with_reducible first | exact HB.out | apply below_alloc | apply pw_below_drewN | apply below_drew1 | refine below_set ?_ GE660.out) | exact HB.out)) hb); clear HO667; clear BK660; clear HB; have HO667 := n0_; have BK660 := n1_; have HB := n2_; clear n0_ n1_ n2_; (try clear hb); (try clear hb2); (try clear hk); (try clear hi))); try go_wp2_with (first | (go_at_call 72; (with_reducible refine (spec_l08For.calls k2 gb660 A0_0 c0_0 l0_0 A0_1 c0_1 l0_1 A0_2 c0_2 l0_2 x661003_2 x661004_2 _ _ l1 t665 _ ?side1 ?side2 ?side3 ?side4 ?side5 ?side6 ?side7 ?side8 ?side9 A18.out).mono ?_); (case side1 => repeat (first | exact (Kd.C_below HR0_0.out HB.out) | (with_reducible refine Kd.C_alloc ?_ _) | (with_reducible refine Kd.C_drewN ?_ _) | (with_reducible refine Kd.C_drew ?_))); (case side2 => exact HC0_0.out); (case side3 => repeat (first | exact (Kd.C_below HR0_1.out HB.out) | (with_reducible refine Kd.C_alloc ?_ _) | (with_reducible refine Kd.C_drewN ?_ _) | (with_reducible refine Kd.C_drew ?_))); (case side4 => exact HC0_1.out); (case side5 => repeat (first | exact (Kd.C_below HR0_2.out HB.out) | (with_reducible refine Kd.C_alloc ?_ _) | (with_reducible refine Kd.C_drewN ?_ _) | (with_reducible refine Kd.C_drew ?_))); (case side6 => exact HC0_2.out); (case side7 => repeat (first | exact (Kd.C_below HR1.out HB.out) | (with_reducible refine Kd.C_alloc ?_ _) | (with_reducible refine Kd.C_drewN ?_ _) | (with_reducible refine Kd.C_drew ?_))); (case side8 => exact HC1.out); (case side9 => exact (by (with_reducible repeat (first | refine blk_drewN ?_ _ | refine blk_drew ?_ | refine blk_alloc ?_ _)); exact BK660.out)); rintro e w24 ⟨v666, rfl, ho0, hb⟩; have n0_ := Aside0.mk (Kd.S_lower ho0 (below_size (by repeat (first | (with_reducible first | exact HB.out | apply below_alloc | apply pw_below_drewN | apply below_drew1 | refine below_set ?_ GE660.out) | exact HB.out)))); have n1_ := Aside0.mk (blk_below (g := gb660) (o := .cells #[.slice A0_0 l0_0.length c0_0, .slice A0_1 l0_1.length c0_1, .slice A0_2 l0_2.length c0_2, .int .i64 x661003_2, .int .i64 x661004_2] 27 (0, 0)) (by (with_reducible repeat (first | refine blk_drewN ?_ _ | refine blk_drew ?_ | refine blk_alloc ?_ _)); exact BK660.out) hb); have n2_ := Aside0.mk (below_step (by repeat (first | (with_reducible first | exact HB.out | apply below_alloc | apply pw_below_drewN | apply below_drew1 | refine below_set ?_ GE660.out) | exact HB.out)) hb); clear BK660; clear HB; have HO667 := n0_; have BK660 := n1_; have HB := n2_; clear n0_ n1_ n2_; (try clear hb); (try clear hb2); (try clear hk); (try clear hi); (try clear ho0); obtain ⟨Ao25, co25, eo25⟩ := Kd.S_slice HO667.out; subst eo25) | (go_at_call 73; (with_reducible refine (spec_l08Enough.calls k2 gb660 A0_0 c0_0 l0_0 A0_1 c0_1 l0_1 A0_2 c0_2 l0_2 x661003_2 x661004_2 _ _ t665 false _ ?side1 ?side2 ?side3 ?side4 ?side5 ?side6 ?side7 ?side8 ?side9 A19.out).mono ?_); (case side1 => repeat (first | exact (Kd.C_below HR0_0.out HB.out) | (with_reducible refine Kd.C_alloc ?_ _) | (with_reducible refine Kd.C_drewN ?_ _) | (with_reducible refine Kd.C_drew ?_))); (case side2 => exact HC0_0.out); (case side3 => repeat (first | exact (Kd.C_below HR0_1.out HB.out) | (with_reducible refine Kd.C_alloc ?_ _) | (with_reducible refine Kd.C_drewN ?_ _) | (with_reducible refine Kd.C_drew ?_))); (case side4 => exact HC0_1.out); (case side5 => repeat (first | exact (Kd.C_below HR0_2.out HB.out) | (with_reducible refine Kd.C_alloc ?_ _) | (with_reducible refine Kd.C_drewN ?_ _) | (with_reducible refine Kd.C_drew ?_))); (case side6 => exact HC0_2.out); (case side7 => repeat (first | exact (Kd.S_reads' HO667.out).2.2 | (with_reducible refine Kd.C_alloc ?_ _) | (with_reducible refine Kd.C_drewN ?_ _) | (with_reducible refine Kd.C_drew ?_))); (case side8 => exact (Kd.S_reads' HO667.out).2.1); (case side9 => exact (by (with_reducible repeat (first | refine blk_drewN ?_ _ | refine blk_drew ?_ | refine blk_alloc ?_ _)); exact BK660.out)); rintro e w26 ⟨rfl, hb⟩; have n0_ := Aside0.mk (Kd.S_below (by (with_reducible repeat (first | apply Kd.S_alloc | apply Kd.S_drewN | apply Kd.S_drew)); exact HO667.out) hb); have n1_ := Aside0.mk (blk_below (g := gb660) (o := .cells #[.slice A0_0 l0_0.length c0_0, .slice A0_1 l0_1.length c0_1, .slice A0_2 l0_2.length c0_2, .int .i64 x661003_2, .int .i64 x661004_2] 27 (0, 0)) (by (with_reducible repeat (first | refine blk_drewN ?_ _ | refine blk_drew ?_ | refine blk_alloc ?_ _)); exact BK660.out) hb); have n2_ := Aside0.mk (below_step (by repeat (first | (with_reducible first | exact HB.out | apply below_alloc | apply pw_below_drewN | apply below_drew1 | refine below_set ?_ GE660.out) | exact HB.out)) hb); clear HO667; clear BK660; clear HB; have HO667 := n0_; have BK660 := n1_; have HB := n2_; clear n0_ n1_ n2_; (try clear hb); (try clear hb2); (try clear hk); (try clear hi))))
        go_ret2
        exact ⟨_, by first | rfl | (simp [errW_none, errW_some] <;> rfl) | (simp [*, errW_none, errW_some] <;> rfl) | (simp [Int.tdiv_eq_ediv_of_nonneg, *]; done), by first | exact Kd.S_nil _ _ _ _ _ | exact Kd.N_nil _ _ _ _ _ | exact Kd.V_nil _ _ _ _ _ | exact Kd.Q_nil _ _ _ _ _ | exact Kd.R_nil _ _ _ _ _, by repeat (first | (with_reducible first | exact HB.out | apply below_alloc | apply pw_below_drewN | apply below_drew1 | refine below_set ?_ GE660.out) | exact HB.out)⟩

def laws_FnExactPlanFor.f (k : Nat) (l0_0 : List S113) (l0_1 : List Int) (l0_2 : List Int) (a0_3 : Int) (a0_4 : Int) (l1 : List Int) : Option (Bool) :=
 if (l1.length : Int) > 1048576 then some true else
 (laws_szHead.f l0_0 l0_1 l0_2 a0_3 a0_4 1048576).bind fun t0 => if t0 < 0 then some true else
 (laws_toHead.f k l0_0 l0_1 l0_2 a0_3 a0_4).bind fun b0 =>
 (laws_toInt64S.f k l1).bind fun b1 =>
 (spec_PlanFor.f k b0.1 b0.2.1 b0.2.2.1 b0.2.2.2.1 b0.2.2.2.2 b1).bind fun bw => (impl_PlanFor.f k b0.1 b0.2.1 b0.2.2.1 b0.2.2.2.1 b0.2.2.2.2 b1).bind fun bg =>
 (laws_eqStopS.f k bg.1 bw.1).bind fun te => if te = true then (if bg.2 = bw.2 then (
 (laws_eqHead.f k b0.1 b0.2.1 b0.2.2.1 b0.2.2.2.1 b0.2.2.2.2 b0.1 b0.2.1 b0.2.2.1 b0.2.2.2.1 b0.2.2.2.2).bind fun tq0 => if tq0 = true then (
 (laws_eqInt64S.f k b1 b1).bind fun tq1 => if tq1 = true then (
 (laws_markHead.f k b0.1 b0.2.1 b0.2.2.1 b0.2.2.2.1 b0.2.2.2.2 1).bind fun bm0 =>
 (laws_markInt64S.f k b1 bm0.1).bind fun bm1 =>
 if bm1.1 < 0 then none else (laws_markStopS.f k bg.1 1).bind fun bk => (laws_heldStopS.f k bk.2 1).bind fun th => if th < 0 then none else if th = bk.1 then some true else none
 ) else none) else none) else none) else none
set_option maxHeartbeats 8000000 in
set_option maxRecDepth 100000 in
theorem laws_FnExactPlanFor.calls (k : Nat) (A0_0 : Option Addr) (c0_0 : Nat) (l0_0 : List S113) (A0_1 : Option Addr) (c0_1 : Nat) (l0_1 : List Int) (A0_2 : Option Addr) (c0_2 : Nat) (l0_2 : List Int) (a0_3 : Int) (a0_4 : Int) (A1 : Option Addr) (c1 : Nat) (l1 : List Int) (r : Bool) (w : World) (hr0_0 : Kd.C k113 w A0_0 l0_0.length l0_0) (hc0_0 : l0_0.length ≤ c0_0) (hr0_1 : Kd.C (Kd.int .i64) w A0_1 l0_1.length l0_1) (hc0_1 : l0_1.length ≤ c0_1) (hr0_2 : Kd.C (Kd.int .i64) w A0_2 l0_2.length l0_2) (hc0_2 : l0_2.length ≤ c0_2) (hr1 : Kd.C (Kd.int .i64) w A1 l1.length l1) (hc1 : l1.length ≤ c1) (h : laws_FnExactPlanFor.f k l0_0 l0_1 l0_2 a0_3 a0_4 l1 = some r) :
  Calls Try.prog 7 #[.agg #[.slice A0_0 l0_0.length c0_0, .slice A0_1 l0_1.length c0_1, .slice A0_2 l0_2.length c0_2, .int .i64 a0_3, .int .i64 a0_4], .slice A1 l1.length c1] w fun e w' => e = .returned (.bool r) ∧ Below w.heap.size w w' := by
 have db : ∀ {w w' : World}, Drawn0 w w' → Below w.heap.size w w' := by
  intro w w' h_
  obtain ⟨n_, rfl⟩ := h_
  exact pw_below_drewN (Below.refl _ _) _
 have hua0 := Try.underlying53
 have hux0 := Try.underlying27
 have HR0_0 := Aside0.mk hr0_0
 have HC0_0 := Aside0.mk hc0_0
 clear hr0_0 hc0_0
 have HR0_1 := Aside0.mk hr0_1
 have HC0_1 := Aside0.mk hc0_1
 clear hr0_1 hc0_1
 have HR0_2 := Aside0.mk hr0_2
 have HC0_2 := Aside0.mk hc0_2
 clear hr0_2 hc0_2
 have hl1 := hr1.2.1
 have HR1 := Aside0.mk hr1
 have HC1 := Aside0.mk hc1
 clear hr1 hc1
 have HB := Aside0.mk (Below.refl w.heap.size w)
 unfold laws_FnExactPlanFor.f at h
 by_cases ce : (l1.length : Int) > 1048576
 ·rw [if_pos ce] at h
  obtain rfl := Option.some.inj h
  have ceb : decide ((1048576 : Int) < (l1.length : Int)) = true := decide_eq_true ce
  clear ce h
  go_enter Try.func7, Try.ntmps7
  go_wp2_with (first | ((with_reducible refine gate_dst (N := 2) rfl ?_); refine box_event ?hg (N := 2) ?hd (cs := #[.slice A0_0 l0_0.length c0_0, .slice A0_1 l0_1.length c0_1, .slice A0_2 l0_2.length c0_2, .int .i64 a0_3, .int .i64 a0_4]) (t := 53) ?hr ?_; (case hd => rfl); (case hg => rfl); (case hr => first | (go_simp; done) | (go_simp; rfl)); intro ga0 hga0 w1 hbox hb; have BA0 := Aside0.mk hbox; skip; have HB_ := Aside0.mk (below_step HB.out hb); clear hb hbox hga0; clear HB; have HB := HB_; clear HB_; have hcBA00 : w1.cell? ⟨ga0, 0, none⟩ = some (.slice A0_0 l0_0.length c0_0) := (blk_cell BA0.out 0).trans rfl; have hfBA00 := blk_frozen BA0.out 0; have hcBA01 : w1.cell? ⟨ga0, 1, none⟩ = some (.slice A0_1 l0_1.length c0_1) := (blk_cell BA0.out 1).trans rfl; have hfBA01 := blk_frozen BA0.out 1; have hcBA02 : w1.cell? ⟨ga0, 2, none⟩ = some (.slice A0_2 l0_2.length c0_2) := (blk_cell BA0.out 2).trans rfl; have hfBA02 := blk_frozen BA0.out 2; have hcBA03 : w1.cell? ⟨ga0, 3, none⟩ = some (.int .i64 a0_3) := (blk_cell BA0.out 3).trans rfl; have hfBA03 := blk_frozen BA0.out 3; have hcBA04 : w1.cell? ⟨ga0, 4, none⟩ = some (.int .i64 a0_4) := (blk_cell BA0.out 4).trans rfl; have hfBA04 := blk_frozen BA0.out 4))
  go_ret
  exact ⟨by first | rfl | (simp; done) | (simp [*]; done) | (simp [Int.tdiv_eq_ediv_of_nonneg, *]; done), by repeat (first | (with_reducible first | exact HB.out | apply below_alloc | apply pw_below_drewN | apply below_drew1) | exact HB.out)⟩
 ·rw [if_neg ce] at h
  have cebl1 : decide ((1048576 : Int) < (l1.length : Int)) = false := decide_eq_false ce
  clear ce
  replace h := Option.bind_eq_some_iff.mp h
  obtain ⟨t0, A_0, h⟩ := h
  by_cases ce : t0 < 0
  ·rw [if_pos ce] at h
   obtain rfl := Option.some.inj h
   have ceb : decide (t0 < 0) = true := decide_eq_true ce
   clear ce h
   have Bt0 := Aside0.mk A_0
   clear A_0
   go_enter Try.func7, Try.ntmps7
   go_wp2_with (first | ((with_reducible refine gate_dst (N := 2) rfl ?_); refine box_event ?hg (N := 2) ?hd (cs := #[.slice A0_0 l0_0.length c0_0, .slice A0_1 l0_1.length c0_1, .slice A0_2 l0_2.length c0_2, .int .i64 a0_3, .int .i64 a0_4]) (t := 53) ?hr ?_; (case hd => rfl); (case hg => rfl); (case hr => first | (go_simp; done) | (go_simp; rfl)); intro ga0 hga0 w1 hbox hb; have BA0 := Aside0.mk hbox; skip; have HB_ := Aside0.mk (below_step HB.out hb); clear hb hbox hga0; clear HB; have HB := HB_; clear HB_; have hcBA00 : w1.cell? ⟨ga0, 0, none⟩ = some (.slice A0_0 l0_0.length c0_0) := (blk_cell BA0.out 0).trans rfl; have hfBA00 := blk_frozen BA0.out 0; have hcBA01 : w1.cell? ⟨ga0, 1, none⟩ = some (.slice A0_1 l0_1.length c0_1) := (blk_cell BA0.out 1).trans rfl; have hfBA01 := blk_frozen BA0.out 1; have hcBA02 : w1.cell? ⟨ga0, 2, none⟩ = some (.slice A0_2 l0_2.length c0_2) := (blk_cell BA0.out 2).trans rfl; have hfBA02 := blk_frozen BA0.out 2; have hcBA03 : w1.cell? ⟨ga0, 3, none⟩ = some (.int .i64 a0_3) := (blk_cell BA0.out 3).trans rfl; have hfBA03 := blk_frozen BA0.out 3; have hcBA04 : w1.cell? ⟨ga0, 4, none⟩ = some (.int .i64 a0_4) := (blk_cell BA0.out 4).trans rfl; have hfBA04 := blk_frozen BA0.out 4) | (go_at_call 23; (with_reducible refine (laws_szHead.calls A0_0 c0_0 l0_0 A0_1 c0_1 l0_1 A0_2 c0_2 l0_2 a0_3 a0_4 1048576 t0 _ (Kd.C_below HR0_0.out HB.out) HC0_0.out (Kd.C_below HR0_1.out HB.out) HC0_1.out (Kd.C_below HR0_2.out HB.out) HC0_2.out Bt0.out).mono ?_); rintro e w2 ⟨rfl, hb⟩; have HB_ := Aside0.mk (below_step HB.out hb); have BA0_ := Aside0.mk (blk_below (g := ga0) (o := .cells #[.slice A0_0 l0_0.length c0_0, .slice A0_1 l0_1.length c0_1, .slice A0_2 l0_2.length c0_2, .int .i64 a0_3, .int .i64 a0_4] 53 (0, 0)) BA0.out hb); clear hb; clear HB BA0; have HB := HB_; have BA0 := BA0_; clear HB_ BA0_; clear hcBA00 hfBA00 hcBA01 hfBA01 hcBA02 hfBA02 hcBA03 hfBA03 hcBA04 hfBA04; have hcBA00 : w2.cell? ⟨ga0, 0, none⟩ = some (.slice A0_0 l0_0.length c0_0) := (blk_cell BA0.out 0).trans rfl; have hfBA00 := blk_frozen BA0.out 0; have hcBA01 : w2.cell? ⟨ga0, 1, none⟩ = some (.slice A0_1 l0_1.length c0_1) := (blk_cell BA0.out 1).trans rfl; have hfBA01 := blk_frozen BA0.out 1; have hcBA02 : w2.cell? ⟨ga0, 2, none⟩ = some (.slice A0_2 l0_2.length c0_2) := (blk_cell BA0.out 2).trans rfl; have hfBA02 := blk_frozen BA0.out 2; have hcBA03 : w2.cell? ⟨ga0, 3, none⟩ = some (.int .i64 a0_3) := (blk_cell BA0.out 3).trans rfl; have hfBA03 := blk_frozen BA0.out 3; have hcBA04 : w2.cell? ⟨ga0, 4, none⟩ = some (.int .i64 a0_4) := (blk_cell BA0.out 4).trans rfl; have hfBA04 := blk_frozen BA0.out 4))
   go_ret
   exact ⟨by first | rfl | (simp; done) | (simp [*]; done) | (simp [Int.tdiv_eq_ediv_of_nonneg, *]; done), by repeat (first | (with_reducible first | exact HB.out | apply below_alloc | apply pw_below_drewN | apply below_drew1) | exact HB.out)⟩
  ·rw [if_neg ce] at h
   have cebt0 : decide (t0 < 0) = false := decide_eq_false ce
   clear ce
   replace h := Option.bind_eq_some_iff.mp h
   obtain ⟨⟨x0_0, x0_1, x0_2, x0_3, x0_4⟩, AT0, h⟩ := h
   replace h := Option.bind_eq_some_iff.mp h
   obtain ⟨x1, AT1, h⟩ := h
   replace h := Option.bind_eq_some_iff.mp h
   obtain ⟨⟨s0, s1⟩, AW, h⟩ := h
   replace h := Option.bind_eq_some_iff.mp h
   obtain ⟨⟨g0, g1⟩, AG, h⟩ := h
   replace h := Option.bind_eq_some_iff.mp h
   obtain ⟨te, AE, h⟩ := h
   dsimp only at AW AG AE h
   have h5 : te = true := by by_cases c : te = true; exact c; rw [if_neg c] at h; exact absurd h (by simp)
   rw [if_pos h5] at h
   subst h5
   have c6 : g1 = s1 := by by_cases c : g1 = s1; exact c; rw [if_neg c] at h; exact absurd h (by simp)
   rw [if_pos c6] at h
   have cAg1 : (g1 != s1) = false := by simpa using c6
   have cBg1 : decide (g1 = s1) = true := by simpa using c6
   have cCg1 : (g1 == s1) = true := by simpa using c6
   clear c6
   replace h := Option.bind_eq_some_iff.mp h
   obtain ⟨tq0, AQ0, h⟩ := h
   have h5 : tq0 = true := by by_cases c : tq0 = true; exact c; rw [if_neg c] at h; exact absurd h (by simp)
   rw [if_pos h5] at h
   subst h5
   replace h := Option.bind_eq_some_iff.mp h
   obtain ⟨tq1, AQ1, h⟩ := h
   have h5 : tq1 = true := by by_cases c : tq1 = true; exact c; rw [if_neg c] at h; exact absurd h (by simp)
   rw [if_pos h5] at h
   subst h5
   replace h := Option.bind_eq_some_iff.mp h
   obtain ⟨⟨q0, m0_0, m0_1, m0_2⟩, AM0, h⟩ := h
   dsimp only at h
   replace h := Option.bind_eq_some_iff.mp h
   obtain ⟨⟨q1, m1_0⟩, AM1, h⟩ := h
   dsimp only at h
   have c8 : ¬ q1 < 0 := by intro c; rw [if_pos c] at h; exact absurd h (by simp)
   rw [if_neg c8] at h
   have c8b0 : decide (q1 < 0) = false := decide_eq_false c8
   clear c8
   replace h := Option.bind_eq_some_iff.mp h
   obtain ⟨⟨qk, lk⟩, AK, h⟩ := h
   replace h := Option.bind_eq_some_iff.mp h
   obtain ⟨th, AH, h⟩ := h
   dsimp only at AH h
   try dsimp only at AM1
   have c11 : ¬ th < 0 := by intro c; rw [if_pos c] at h; exact absurd h (by simp)
   rw [if_neg c11] at h
   have c11b0 : decide (th < 0) = false := decide_eq_false c11
   clear c11
   have c12 : th = qk := by by_cases c : th = qk; exact c; rw [if_neg c] at h; exact absurd h (by simp)
   rw [if_pos c12] at h
   have hr := Option.some.inj h
   clear h
   subst c12
   subst hr
   have Bt0 := Aside0.mk A_0
   clear A_0
   have BT0 := Aside0.mk AT0
   clear AT0
   have BT1 := Aside0.mk AT1
   clear AT1
   have BW := Aside0.mk AW
   clear AW
   have BG := Aside0.mk AG
   clear AG
   have BE := Aside0.mk AE
   clear AE
   have BQ0 := Aside0.mk AQ0
   clear AQ0
   have BQ1 := Aside0.mk AQ1
   clear AQ1
   have BM0 := Aside0.mk AM0
   clear AM0
   have BM1 := Aside0.mk AM1
   clear AM1
   have BK := Aside0.mk AK
   clear AK
   have BH := Aside0.mk AH
   clear AH
   have DB := Aside0.mk @db
   clear db
   go_enter Try.func7, Try.ntmps7
   go_wp2_with (first | ((with_reducible refine gate_dst (N := 2) rfl ?_); refine box_event ?hg (N := 2) ?hd (cs := #[.slice A0_0 l0_0.length c0_0, .slice A0_1 l0_1.length c0_1, .slice A0_2 l0_2.length c0_2, .int .i64 a0_3, .int .i64 a0_4]) (t := 53) ?hr ?_; (case hd => rfl); (case hg => rfl); (case hr => first | (go_simp; done) | (go_simp; rfl)); intro ga0 hga0 w1 hbox hb; have BA0 := Aside0.mk hbox; skip; have HB_ := Aside0.mk (below_step HB.out hb); clear hb hbox hga0; clear HB; have HB := HB_; clear HB_; have hcBA00 : w1.cell? ⟨ga0, 0, none⟩ = some (.slice A0_0 l0_0.length c0_0) := (blk_cell BA0.out 0).trans rfl; have hfBA00 := blk_frozen BA0.out 0; have hcBA01 : w1.cell? ⟨ga0, 1, none⟩ = some (.slice A0_1 l0_1.length c0_1) := (blk_cell BA0.out 1).trans rfl; have hfBA01 := blk_frozen BA0.out 1; have hcBA02 : w1.cell? ⟨ga0, 2, none⟩ = some (.slice A0_2 l0_2.length c0_2) := (blk_cell BA0.out 2).trans rfl; have hfBA02 := blk_frozen BA0.out 2; have hcBA03 : w1.cell? ⟨ga0, 3, none⟩ = some (.int .i64 a0_3) := (blk_cell BA0.out 3).trans rfl; have hfBA03 := blk_frozen BA0.out 3; have hcBA04 : w1.cell? ⟨ga0, 4, none⟩ = some (.int .i64 a0_4) := (blk_cell BA0.out 4).trans rfl; have hfBA04 := blk_frozen BA0.out 4) | (go_at_call 23; (with_reducible refine (laws_szHead.calls A0_0 c0_0 l0_0 A0_1 c0_1 l0_1 A0_2 c0_2 l0_2 a0_3 a0_4 1048576 t0 _ (Kd.C_below HR0_0.out HB.out) HC0_0.out (Kd.C_below HR0_1.out HB.out) HC0_1.out (Kd.C_below HR0_2.out HB.out) HC0_2.out Bt0.out).mono ?_); rintro e w2 ⟨rfl, hb⟩; have HB_ := Aside0.mk (below_step HB.out hb); have BA0_ := Aside0.mk (blk_below (g := ga0) (o := .cells #[.slice A0_0 l0_0.length c0_0, .slice A0_1 l0_1.length c0_1, .slice A0_2 l0_2.length c0_2, .int .i64 a0_3, .int .i64 a0_4] 53 (0, 0)) BA0.out hb); clear hb; clear HB BA0; have HB := HB_; have BA0 := BA0_; clear HB_ BA0_; clear hcBA00 hfBA00 hcBA01 hfBA01 hcBA02 hfBA02 hcBA03 hfBA03 hcBA04 hfBA04; have hcBA00 : w2.cell? ⟨ga0, 0, none⟩ = some (.slice A0_0 l0_0.length c0_0) := (blk_cell BA0.out 0).trans rfl; have hfBA00 := blk_frozen BA0.out 0; have hcBA01 : w2.cell? ⟨ga0, 1, none⟩ = some (.slice A0_1 l0_1.length c0_1) := (blk_cell BA0.out 1).trans rfl; have hfBA01 := blk_frozen BA0.out 1; have hcBA02 : w2.cell? ⟨ga0, 2, none⟩ = some (.slice A0_2 l0_2.length c0_2) := (blk_cell BA0.out 2).trans rfl; have hfBA02 := blk_frozen BA0.out 2; have hcBA03 : w2.cell? ⟨ga0, 3, none⟩ = some (.int .i64 a0_3) := (blk_cell BA0.out 3).trans rfl; have hfBA03 := blk_frozen BA0.out 3; have hcBA04 : w2.cell? ⟨ga0, 4, none⟩ = some (.int .i64 a0_4) := (blk_cell BA0.out 4).trans rfl; have hfBA04 := blk_frozen BA0.out 4))
   go_wp2_with (first | (go_at_call 26; (with_reducible refine (laws_toHead.calls k A0_0 c0_0 l0_0 A0_1 c0_1 l0_1 A0_2 c0_2 l0_2 a0_3 a0_4 x0_0 x0_1 x0_2 x0_3 x0_4 _ (Kd.C_below HR0_0.out HB.out) HC0_0.out (Kd.C_below HR0_1.out HB.out) HC0_1.out (Kd.C_below HR0_2.out HB.out) HC0_2.out BT0.out).mono ?_); rintro e w3 ⟨v0, v1, v2, rfl, ho0, ho1, ho2, hb⟩; have HX0_0 := Aside0.mk ho0; have HX0_1 := Aside0.mk ho1; have HX0_2 := Aside0.mk ho2; have HB_ := Aside0.mk (below_step HB.out hb); have BA0_ := Aside0.mk (blk_below (g := ga0) (o := .cells #[.slice A0_0 l0_0.length c0_0, .slice A0_1 l0_1.length c0_1, .slice A0_2 l0_2.length c0_2, .int .i64 a0_3, .int .i64 a0_4] 53 (0, 0)) BA0.out hb); clear hb ho0 ho1 ho2; clear HB BA0; have HB := HB_; have BA0 := BA0_; clear HB_ BA0_; clear hcBA00 hfBA00 hcBA01 hfBA01 hcBA02 hfBA02 hcBA03 hfBA03 hcBA04 hfBA04; have hcBA00 : w3.cell? ⟨ga0, 0, none⟩ = some (.slice A0_0 l0_0.length c0_0) := (blk_cell BA0.out 0).trans rfl; have hfBA00 := blk_frozen BA0.out 0; have hcBA01 : w3.cell? ⟨ga0, 1, none⟩ = some (.slice A0_1 l0_1.length c0_1) := (blk_cell BA0.out 1).trans rfl; have hfBA01 := blk_frozen BA0.out 1; have hcBA02 : w3.cell? ⟨ga0, 2, none⟩ = some (.slice A0_2 l0_2.length c0_2) := (blk_cell BA0.out 2).trans rfl; have hfBA02 := blk_frozen BA0.out 2; have hcBA03 : w3.cell? ⟨ga0, 3, none⟩ = some (.int .i64 a0_3) := (blk_cell BA0.out 3).trans rfl; have hfBA03 := blk_frozen BA0.out 3; have hcBA04 : w3.cell? ⟨ga0, 4, none⟩ = some (.int .i64 a0_4) := (blk_cell BA0.out 4).trans rfl; have hfBA04 := blk_frozen BA0.out 4))
   obtain ⟨Ar0_0, cr0_0, er0_0⟩ := Kd.R_slice HX0_0.out
   subst er0_0
   obtain ⟨Ar0_1, cr0_1, er0_1⟩ := Kd.R_slice HX0_1.out
   subst er0_1
   obtain ⟨Ar0_2, cr0_2, er0_2⟩ := Kd.R_slice HX0_2.out
   subst er0_2
   go_wp2_with (first | (go_at_call 37; (with_reducible refine (laws_toInt64S.calls k A1 c1 l1 x1 _ (Kd.C_below HR1.out HB.out) HC1.out BT1.out).mono ?_); rintro e w4 ⟨v0, rfl, ho0, hb⟩; have HX1 := Aside0.mk ho0; have HB_ := Aside0.mk (below_step HB.out hb); have BA0_ := Aside0.mk (blk_below (g := ga0) (o := .cells #[.slice A0_0 l0_0.length c0_0, .slice A0_1 l0_1.length c0_1, .slice A0_2 l0_2.length c0_2, .int .i64 a0_3, .int .i64 a0_4] 53 (0, 0)) BA0.out hb); have HX0_0_ := Aside0.mk (Kd.R_below HX0_0.out hb); have HX0_1_ := Aside0.mk (Kd.R_below HX0_1.out hb); have HX0_2_ := Aside0.mk (Kd.R_below HX0_2.out hb); clear hb ho0; clear HB BA0 HX0_0 HX0_1 HX0_2; have HB := HB_; have BA0 := BA0_; have HX0_0 := HX0_0_; have HX0_1 := HX0_1_; have HX0_2 := HX0_2_; clear HB_ BA0_ HX0_0_ HX0_1_ HX0_2_; clear hcBA00 hfBA00 hcBA01 hfBA01 hcBA02 hfBA02 hcBA03 hfBA03 hcBA04 hfBA04; have hcBA00 : w4.cell? ⟨ga0, 0, none⟩ = some (.slice A0_0 l0_0.length c0_0) := (blk_cell BA0.out 0).trans rfl; have hfBA00 := blk_frozen BA0.out 0; have hcBA01 : w4.cell? ⟨ga0, 1, none⟩ = some (.slice A0_1 l0_1.length c0_1) := (blk_cell BA0.out 1).trans rfl; have hfBA01 := blk_frozen BA0.out 1; have hcBA02 : w4.cell? ⟨ga0, 2, none⟩ = some (.slice A0_2 l0_2.length c0_2) := (blk_cell BA0.out 2).trans rfl; have hfBA02 := blk_frozen BA0.out 2; have hcBA03 : w4.cell? ⟨ga0, 3, none⟩ = some (.int .i64 a0_3) := (blk_cell BA0.out 3).trans rfl; have hfBA03 := blk_frozen BA0.out 3; have hcBA04 : w4.cell? ⟨ga0, 4, none⟩ = some (.int .i64 a0_4) := (blk_cell BA0.out 4).trans rfl; have hfBA04 := blk_frozen BA0.out 4))
   obtain ⟨Ar1, cr1, er1⟩ := Kd.R_slice HX1.out
   subst er1
   go_wp2_with (first | (go_at_call 36; (with_reducible refine (spec_PlanFor.calls k Ar0_0 cr0_0 x0_0 Ar0_1 cr0_1 x0_1 Ar0_2 cr0_2 x0_2 x0_3 x0_4 Ar1 cr1 x1 s0 s1 _ (Kd.R_reads' HX0_0.out).2.2 (Kd.R_reads' HX0_0.out).2.1 (Kd.R_reads' HX0_1.out).2.2 (Kd.R_reads' HX0_1.out).2.1 (Kd.R_reads' HX0_2.out).2.2 (Kd.R_reads' HX0_2.out).2.1 (Kd.R_reads' HX1.out).2.2 (Kd.R_reads' HX1.out).2.1 BW.out).mono ?_); rintro e w5 ⟨v0, rfl, ho, hb⟩; have HO := Aside0.mk ho; have HB_ := Aside0.mk (below_step HB.out hb); have BA0_ := Aside0.mk (blk_below (g := ga0) (o := .cells #[.slice A0_0 l0_0.length c0_0, .slice A0_1 l0_1.length c0_1, .slice A0_2 l0_2.length c0_2, .int .i64 a0_3, .int .i64 a0_4] 53 (0, 0)) BA0.out hb); clear hb ho HX0_0 HX0_1 HX0_2 HX1; clear HB BA0; have HB := HB_; have BA0 := BA0_; clear HB_ BA0_; clear hcBA00 hfBA00 hcBA01 hfBA01 hcBA02 hfBA02 hcBA03 hfBA03 hcBA04 hfBA04; have hcBA00 : w5.cell? ⟨ga0, 0, none⟩ = some (.slice A0_0 l0_0.length c0_0) := (blk_cell BA0.out 0).trans rfl; have hfBA00 := blk_frozen BA0.out 0; have hcBA01 : w5.cell? ⟨ga0, 1, none⟩ = some (.slice A0_1 l0_1.length c0_1) := (blk_cell BA0.out 1).trans rfl; have hfBA01 := blk_frozen BA0.out 1; have hcBA02 : w5.cell? ⟨ga0, 2, none⟩ = some (.slice A0_2 l0_2.length c0_2) := (blk_cell BA0.out 2).trans rfl; have hfBA02 := blk_frozen BA0.out 2; have hcBA03 : w5.cell? ⟨ga0, 3, none⟩ = some (.int .i64 a0_3) := (blk_cell BA0.out 3).trans rfl; have hfBA03 := blk_frozen BA0.out 3; have hcBA04 : w5.cell? ⟨ga0, 4, none⟩ = some (.int .i64 a0_4) := (blk_cell BA0.out 4).trans rfl; have hfBA04 := blk_frozen BA0.out 4))
   obtain ⟨As, cs, es⟩ := Kd.S_slice HO.out
   subst es
   have HS := Aside0.mk (Kd.S_mono (ok' := fun q => q < w5.heap.size) (Kd.S_bound HO.out) (fun q hq => hq.2.2.1))
   clear HO
   have HA_ := Aside0.mk HB.out.size
   have HA0 := Aside0.mk (blk_lt BA0.out)
   have N0 := Aside0.mk HB.out.size
   go_wp2_with (first | (go_at_call 26; (with_reducible refine (laws_toHead.calls k A0_0 c0_0 l0_0 A0_1 c0_1 l0_1 A0_2 c0_2 l0_2 a0_3 a0_4 x0_0 x0_1 x0_2 x0_3 x0_4 _ (Kd.C_below HR0_0.out HB.out) HC0_0.out (Kd.C_below HR0_1.out HB.out) HC0_1.out (Kd.C_below HR0_2.out HB.out) HC0_2.out BT0.out).mono ?_); rintro e w6 ⟨v0, v1, v2, rfl, ho0, ho1, ho2, hb⟩; have HX0_0 := Aside0.mk ho0; have HX0_1 := Aside0.mk ho1; have HX0_2 := Aside0.mk ho2; have Z1 := Aside0.mk (hb.size); have HB_ := Aside0.mk (below_step HB.out hb); have BA0_ := Aside0.mk (blk_below (g := ga0) (o := .cells #[.slice A0_0 l0_0.length c0_0, .slice A0_1 l0_1.length c0_1, .slice A0_2 l0_2.length c0_2, .int .i64 a0_3, .int .i64 a0_4] 53 (0, 0)) BA0.out hb); have HS_ := Aside0.mk (Kd.S_below HS.out hb); clear hb ho0 ho1 ho2; clear HB BA0 HS; have HB := HB_; have BA0 := BA0_; have HS := HS_; clear HB_ BA0_ HS_; clear hcBA00 hfBA00 hcBA01 hfBA01 hcBA02 hfBA02 hcBA03 hfBA03 hcBA04 hfBA04; have hcBA00 : w6.cell? ⟨ga0, 0, none⟩ = some (.slice A0_0 l0_0.length c0_0) := (blk_cell BA0.out 0).trans rfl; have hfBA00 := blk_frozen BA0.out 0; have hcBA01 : w6.cell? ⟨ga0, 1, none⟩ = some (.slice A0_1 l0_1.length c0_1) := (blk_cell BA0.out 1).trans rfl; have hfBA01 := blk_frozen BA0.out 1; have hcBA02 : w6.cell? ⟨ga0, 2, none⟩ = some (.slice A0_2 l0_2.length c0_2) := (blk_cell BA0.out 2).trans rfl; have hfBA02 := blk_frozen BA0.out 2; have hcBA03 : w6.cell? ⟨ga0, 3, none⟩ = some (.int .i64 a0_3) := (blk_cell BA0.out 3).trans rfl; have hfBA03 := blk_frozen BA0.out 3; have hcBA04 : w6.cell? ⟨ga0, 4, none⟩ = some (.int .i64 a0_4) := (blk_cell BA0.out 4).trans rfl; have hfBA04 := blk_frozen BA0.out 4; obtain ⟨Ax0_0, cx0_0, ex0_0⟩ := Kd.R_slice HX0_0.out; subst ex0_0; obtain ⟨Ax0_1, cx0_1, ex0_1⟩ := Kd.R_slice HX0_1.out; subst ex0_1; obtain ⟨Ax0_2, cx0_2, ex0_2⟩ := Kd.R_slice HX0_2.out; subst ex0_2; have HY0_0 := Aside0.mk (Kd.R_mono (ok' := (fun q => (w5.heap.size ≤ q ∧ q < w6.heap.size) ∧ True)) (Kd.R_bound HX0_0.out) (fun q hq => ⟨⟨hq.2.1, hq.2.2.1⟩, trivial⟩)); have HY0_1 := Aside0.mk (Kd.R_mono (ok' := (fun q => (w5.heap.size ≤ q ∧ q < w6.heap.size) ∧ some q = (.slice Ax0_1 x0_1.length cx0_1 : Value).ownBlock ∧ some q ≠ (.slice Ax0_2 x0_2.length cx0_2 : Value).ownBlock)) (Kd.R_bound (Kd.R_tight2 rfl HX0_1.out)) (fun q hq => ⟨⟨hq.2.1, hq.2.2.1⟩, hq.1⟩)); have HY0_2 := Aside0.mk (Kd.R_mono (ok' := (fun q => (w5.heap.size ≤ q ∧ q < w6.heap.size) ∧ some q = (.slice Ax0_2 x0_2.length cx0_2 : Value).ownBlock ∧ some q ≠ (.slice Ax0_1 x0_1.length cx0_1 : Value).ownBlock)) (Kd.R_bound (Kd.R_tight2 rfl HX0_2.out)) (fun q hq => ⟨⟨hq.2.1, hq.2.2.1⟩, hq.1⟩)); clear HX0_0 HX0_1 HX0_2) | ((with_reducible refine gate_dst (N := 8) rfl ?_); refine box_event ?hg (N := 8) ?hd (cs := #[.slice none 0 0, .slice none 0 0, .slice none 0 0, .int .i64 0, .int .i64 0]) (t := 27) ?hr ?_; (case hd => rfl); (case hg => rfl); (case hr => first | (go_simp; done) | (go_simp; rfl)); intro gx0 hgx w7 hbox hb; have NX0BA0 := Aside0.mk ((by rw [hgx]; exact Nat.ne_of_lt (blk_lt (g := ga0) (o := .cells #[.slice A0_0 l0_0.length c0_0, .slice A0_1 l0_1.length c0_1, .slice A0_2 l0_2.length c0_2, .int .i64 a0_3, .int .i64 a0_4] 53 (0, 0)) BA0.out)) : ga0 ≠ gx0); have GX0 := Aside0.mk ((by rw [hgx]; exact Nat.le_refl _) : w6.heap.size ≤ gx0); have GY0 := Aside0.mk ((blk_lt hbox) : gx0 < w7.heap.size); have BX0 := Aside0.mk hbox; have HB_ := Aside0.mk (below_step HB.out hb); have BA0_ := Aside0.mk (blk_below (g := ga0) (o := .cells #[.slice A0_0 l0_0.length c0_0, .slice A0_1 l0_1.length c0_1, .slice A0_2 l0_2.length c0_2, .int .i64 a0_3, .int .i64 a0_4] 53 (0, 0)) BA0.out hb); have HS_ := Aside0.mk (Kd.S_below HS.out hb); have HY0_0_ := Aside0.mk (Kd.R_below HY0_0.out hb); have HY0_1_ := Aside0.mk (Kd.R_below HY0_1.out hb); have HY0_2_ := Aside0.mk (Kd.R_below HY0_2.out hb); clear hb hbox hgx; clear HB BA0 HS HY0_0 HY0_1 HY0_2; have HB := HB_; have BA0 := BA0_; have HS := HS_; have HY0_0 := HY0_0_; have HY0_1 := HY0_1_; have HY0_2 := HY0_2_; clear HB_ BA0_ HS_ HY0_0_ HY0_1_ HY0_2_; clear hcBA00 hfBA00 hcBA01 hfBA01 hcBA02 hfBA02 hcBA03 hfBA03 hcBA04 hfBA04; have hcBA00 : w7.cell? ⟨ga0, 0, none⟩ = some (.slice A0_0 l0_0.length c0_0) := (blk_cell BA0.out 0).trans rfl; have hfBA00 := blk_frozen BA0.out 0; have hcBA01 : w7.cell? ⟨ga0, 1, none⟩ = some (.slice A0_1 l0_1.length c0_1) := (blk_cell BA0.out 1).trans rfl; have hfBA01 := blk_frozen BA0.out 1; have hcBA02 : w7.cell? ⟨ga0, 2, none⟩ = some (.slice A0_2 l0_2.length c0_2) := (blk_cell BA0.out 2).trans rfl; have hfBA02 := blk_frozen BA0.out 2; have hcBA03 : w7.cell? ⟨ga0, 3, none⟩ = some (.int .i64 a0_3) := (blk_cell BA0.out 3).trans rfl; have hfBA03 := blk_frozen BA0.out 3; have hcBA04 : w7.cell? ⟨ga0, 4, none⟩ = some (.int .i64 a0_4) := (blk_cell BA0.out 4).trans rfl; have hfBA04 := blk_frozen BA0.out 4; have hcBX00 : w7.cell? ⟨gx0, 0, none⟩ = some (.slice none 0 0) := (blk_cell BX0.out 0).trans rfl; have hfBX00 := blk_frozen BX0.out 0; have hcBX01 : w7.cell? ⟨gx0, 1, none⟩ = some (.slice none 0 0) := (blk_cell BX0.out 1).trans rfl; have hfBX01 := blk_frozen BX0.out 1; have hcBX02 : w7.cell? ⟨gx0, 2, none⟩ = some (.slice none 0 0) := (blk_cell BX0.out 2).trans rfl; have hfBX02 := blk_frozen BX0.out 2; have hcBX03 : w7.cell? ⟨gx0, 3, none⟩ = some (.int .i64 0) := (blk_cell BX0.out 3).trans rfl; have hfBX03 := blk_frozen BX0.out 3; have hcBX04 : w7.cell? ⟨gx0, 4, none⟩ = some (.int .i64 0) := (blk_cell BX0.out 4).trans rfl; have hfBX04 := blk_frozen BX0.out 4; have hn0BA0 := NX0BA0.out; have hm0BA0 := NX0BA0.out.symm))
   have HB_ : Aside0 (Below w.heap.size w (((((w7.setCell ⟨gx0, 0, none⟩ (.slice Ax0_0 x0_0.length cx0_0)).setCell ⟨gx0, 1, none⟩ (.slice Ax0_1 x0_1.length cx0_1)).setCell ⟨gx0, 2, none⟩ (.slice Ax0_2 x0_2.length cx0_2)).setCell ⟨gx0, 3, none⟩ (.int .i64 x0_3)).setCell ⟨gx0, 4, none⟩ (.int .i64 x0_4))) := Aside0.mk (below_set (j := 4) (v := .int .i64 x0_4) (below_set (j := 3) (v := .int .i64 x0_3) (below_set (j := 2) (v := .slice Ax0_2 x0_2.length cx0_2) (below_set (j := 1) (v := .slice Ax0_1 x0_1.length cx0_1) (below_set (j := 0) (v := .slice Ax0_0 x0_0.length cx0_0) HB.out (by have z0_ := HA0.out; have z1_ := Z1.out; have z2_ := GX0.out; have z3_ := GY0.out; have z4_ := N0.out; omega)) (by have z0_ := HA0.out; have z1_ := Z1.out; have z2_ := GX0.out; have z3_ := GY0.out; have z4_ := N0.out; omega)) (by have z0_ := HA0.out; have z1_ := Z1.out; have z2_ := GX0.out; have z3_ := GY0.out; have z4_ := N0.out; omega)) (by have z0_ := HA0.out; have z1_ := Z1.out; have z2_ := GX0.out; have z3_ := GY0.out; have z4_ := N0.out; omega)) (by have z0_ := HA0.out; have z1_ := Z1.out; have z2_ := GX0.out; have z3_ := GY0.out; have z4_ := N0.out; omega))
   have BA0_ := Aside0.mk (show (World.heap (((((w7.setCell ⟨gx0, 0, none⟩ (.slice Ax0_0 x0_0.length cx0_0)).setCell ⟨gx0, 1, none⟩ (.slice Ax0_1 x0_1.length cx0_1)).setCell ⟨gx0, 2, none⟩ (.slice Ax0_2 x0_2.length cx0_2)).setCell ⟨gx0, 3, none⟩ (.int .i64 x0_3)).setCell ⟨gx0, 4, none⟩ (.int .i64 x0_4)))[ga0]? = some (.cells #[.slice A0_0 l0_0.length c0_0, .slice A0_1 l0_1.length c0_1, .slice A0_2 l0_2.length c0_2, .int .i64 a0_3, .int .i64 a0_4] 53 (0, 0)) from (blk_far (blk_far (blk_far (blk_far (blk_far BA0.out NX0BA0.out (.slice Ax0_0 x0_0.length cx0_0)) NX0BA0.out (.slice Ax0_1 x0_1.length cx0_1)) NX0BA0.out (.slice Ax0_2 x0_2.length cx0_2)) NX0BA0.out (.int .i64 x0_3)) NX0BA0.out (.int .i64 x0_4)))
   have BX0_ := Aside0.mk (show (World.heap (((((w7.setCell ⟨gx0, 0, none⟩ (.slice Ax0_0 x0_0.length cx0_0)).setCell ⟨gx0, 1, none⟩ (.slice Ax0_1 x0_1.length cx0_1)).setCell ⟨gx0, 2, none⟩ (.slice Ax0_2 x0_2.length cx0_2)).setCell ⟨gx0, 3, none⟩ (.int .i64 x0_3)).setCell ⟨gx0, 4, none⟩ (.int .i64 x0_4)))[gx0]? = some (.cells #[.slice Ax0_0 x0_0.length cx0_0, .slice Ax0_1 x0_1.length cx0_1, .slice Ax0_2 x0_2.length cx0_2, .int .i64 x0_3, .int .i64 x0_4] 27 (0, 0)) from (blk_put (g := gx0) (cs := #[.slice Ax0_0 x0_0.length cx0_0, .slice Ax0_1 x0_1.length cx0_1, .slice Ax0_2 x0_2.length cx0_2, .int .i64 x0_3, .int .i64 0]) (blk_put (g := gx0) (cs := #[.slice Ax0_0 x0_0.length cx0_0, .slice Ax0_1 x0_1.length cx0_1, .slice Ax0_2 x0_2.length cx0_2, .int .i64 0, .int .i64 0]) (blk_put (g := gx0) (cs := #[.slice Ax0_0 x0_0.length cx0_0, .slice Ax0_1 x0_1.length cx0_1, .slice none 0 0, .int .i64 0, .int .i64 0]) (blk_put (g := gx0) (cs := #[.slice Ax0_0 x0_0.length cx0_0, .slice none 0 0, .slice none 0 0, .int .i64 0, .int .i64 0]) (blk_put (g := gx0) (cs := #[.slice none 0 0, .slice none 0 0, .slice none 0 0, .int .i64 0, .int .i64 0]) BX0.out 0 (.slice Ax0_0 x0_0.length cx0_0) rfl) 1 (.slice Ax0_1 x0_1.length cx0_1) rfl) 2 (.slice Ax0_2 x0_2.length cx0_2) rfl) 3 (.int .i64 x0_3) rfl) 4 (.int .i64 x0_4) rfl))
   have HS_ := Aside0.mk (Kd.S_far (p := ⟨gx0, 4, none⟩) (Kd.S_far (p := ⟨gx0, 3, none⟩) (Kd.S_far (p := ⟨gx0, 2, none⟩) (Kd.S_far (p := ⟨gx0, 1, none⟩) (Kd.S_far (p := ⟨gx0, 0, none⟩) HS.out (fun q hq => Nat.ne_of_lt (Nat.lt_of_lt_of_le hq (show w5.heap.size ≤ gx0 from by have z0_ := HA0.out; have z1_ := Z1.out; have z2_ := GX0.out; have z3_ := GY0.out; have z4_ := N0.out; omega))) (.slice Ax0_0 x0_0.length cx0_0)) (fun q hq => Nat.ne_of_lt (Nat.lt_of_lt_of_le hq (show w5.heap.size ≤ gx0 from by have z0_ := HA0.out; have z1_ := Z1.out; have z2_ := GX0.out; have z3_ := GY0.out; have z4_ := N0.out; omega))) (.slice Ax0_1 x0_1.length cx0_1)) (fun q hq => Nat.ne_of_lt (Nat.lt_of_lt_of_le hq (show w5.heap.size ≤ gx0 from by have z0_ := HA0.out; have z1_ := Z1.out; have z2_ := GX0.out; have z3_ := GY0.out; have z4_ := N0.out; omega))) (.slice Ax0_2 x0_2.length cx0_2)) (fun q hq => Nat.ne_of_lt (Nat.lt_of_lt_of_le hq (show w5.heap.size ≤ gx0 from by have z0_ := HA0.out; have z1_ := Z1.out; have z2_ := GX0.out; have z3_ := GY0.out; have z4_ := N0.out; omega))) (.int .i64 x0_3)) (fun q hq => Nat.ne_of_lt (Nat.lt_of_lt_of_le hq (show w5.heap.size ≤ gx0 from by have z0_ := HA0.out; have z1_ := Z1.out; have z2_ := GX0.out; have z3_ := GY0.out; have z4_ := N0.out; omega))) (.int .i64 x0_4))
   have HY0_0_ := Aside0.mk (Kd.R_far (p := ⟨gx0, 4, none⟩) (Kd.R_far (p := ⟨gx0, 3, none⟩) (Kd.R_far (p := ⟨gx0, 2, none⟩) (Kd.R_far (p := ⟨gx0, 1, none⟩) (Kd.R_far (p := ⟨gx0, 0, none⟩) HY0_0.out (fun q hq => Nat.ne_of_lt (Nat.lt_of_lt_of_le hq.1.2 (show w6.heap.size ≤ gx0 from by have z0_ := HA0.out; have z1_ := Z1.out; have z2_ := GX0.out; have z3_ := GY0.out; have z4_ := N0.out; omega))) (.slice Ax0_0 x0_0.length cx0_0)) (fun q hq => Nat.ne_of_lt (Nat.lt_of_lt_of_le hq.1.2 (show w6.heap.size ≤ gx0 from by have z0_ := HA0.out; have z1_ := Z1.out; have z2_ := GX0.out; have z3_ := GY0.out; have z4_ := N0.out; omega))) (.slice Ax0_1 x0_1.length cx0_1)) (fun q hq => Nat.ne_of_lt (Nat.lt_of_lt_of_le hq.1.2 (show w6.heap.size ≤ gx0 from by have z0_ := HA0.out; have z1_ := Z1.out; have z2_ := GX0.out; have z3_ := GY0.out; have z4_ := N0.out; omega))) (.slice Ax0_2 x0_2.length cx0_2)) (fun q hq => Nat.ne_of_lt (Nat.lt_of_lt_of_le hq.1.2 (show w6.heap.size ≤ gx0 from by have z0_ := HA0.out; have z1_ := Z1.out; have z2_ := GX0.out; have z3_ := GY0.out; have z4_ := N0.out; omega))) (.int .i64 x0_3)) (fun q hq => Nat.ne_of_lt (Nat.lt_of_lt_of_le hq.1.2 (show w6.heap.size ≤ gx0 from by have z0_ := HA0.out; have z1_ := Z1.out; have z2_ := GX0.out; have z3_ := GY0.out; have z4_ := N0.out; omega))) (.int .i64 x0_4))
   have HY0_1_ := Aside0.mk (Kd.R_far (p := ⟨gx0, 4, none⟩) (Kd.R_far (p := ⟨gx0, 3, none⟩) (Kd.R_far (p := ⟨gx0, 2, none⟩) (Kd.R_far (p := ⟨gx0, 1, none⟩) (Kd.R_far (p := ⟨gx0, 0, none⟩) HY0_1.out (fun q hq => Nat.ne_of_lt (Nat.lt_of_lt_of_le hq.1.2 (show w6.heap.size ≤ gx0 from by have z0_ := HA0.out; have z1_ := Z1.out; have z2_ := GX0.out; have z3_ := GY0.out; have z4_ := N0.out; omega))) (.slice Ax0_0 x0_0.length cx0_0)) (fun q hq => Nat.ne_of_lt (Nat.lt_of_lt_of_le hq.1.2 (show w6.heap.size ≤ gx0 from by have z0_ := HA0.out; have z1_ := Z1.out; have z2_ := GX0.out; have z3_ := GY0.out; have z4_ := N0.out; omega))) (.slice Ax0_1 x0_1.length cx0_1)) (fun q hq => Nat.ne_of_lt (Nat.lt_of_lt_of_le hq.1.2 (show w6.heap.size ≤ gx0 from by have z0_ := HA0.out; have z1_ := Z1.out; have z2_ := GX0.out; have z3_ := GY0.out; have z4_ := N0.out; omega))) (.slice Ax0_2 x0_2.length cx0_2)) (fun q hq => Nat.ne_of_lt (Nat.lt_of_lt_of_le hq.1.2 (show w6.heap.size ≤ gx0 from by have z0_ := HA0.out; have z1_ := Z1.out; have z2_ := GX0.out; have z3_ := GY0.out; have z4_ := N0.out; omega))) (.int .i64 x0_3)) (fun q hq => Nat.ne_of_lt (Nat.lt_of_lt_of_le hq.1.2 (show w6.heap.size ≤ gx0 from by have z0_ := HA0.out; have z1_ := Z1.out; have z2_ := GX0.out; have z3_ := GY0.out; have z4_ := N0.out; omega))) (.int .i64 x0_4))
   have HY0_2_ := Aside0.mk (Kd.R_far (p := ⟨gx0, 4, none⟩) (Kd.R_far (p := ⟨gx0, 3, none⟩) (Kd.R_far (p := ⟨gx0, 2, none⟩) (Kd.R_far (p := ⟨gx0, 1, none⟩) (Kd.R_far (p := ⟨gx0, 0, none⟩) HY0_2.out (fun q hq => Nat.ne_of_lt (Nat.lt_of_lt_of_le hq.1.2 (show w6.heap.size ≤ gx0 from by have z0_ := HA0.out; have z1_ := Z1.out; have z2_ := GX0.out; have z3_ := GY0.out; have z4_ := N0.out; omega))) (.slice Ax0_0 x0_0.length cx0_0)) (fun q hq => Nat.ne_of_lt (Nat.lt_of_lt_of_le hq.1.2 (show w6.heap.size ≤ gx0 from by have z0_ := HA0.out; have z1_ := Z1.out; have z2_ := GX0.out; have z3_ := GY0.out; have z4_ := N0.out; omega))) (.slice Ax0_1 x0_1.length cx0_1)) (fun q hq => Nat.ne_of_lt (Nat.lt_of_lt_of_le hq.1.2 (show w6.heap.size ≤ gx0 from by have z0_ := HA0.out; have z1_ := Z1.out; have z2_ := GX0.out; have z3_ := GY0.out; have z4_ := N0.out; omega))) (.slice Ax0_2 x0_2.length cx0_2)) (fun q hq => Nat.ne_of_lt (Nat.lt_of_lt_of_le hq.1.2 (show w6.heap.size ≤ gx0 from by have z0_ := HA0.out; have z1_ := Z1.out; have z2_ := GX0.out; have z3_ := GY0.out; have z4_ := N0.out; omega))) (.int .i64 x0_3)) (fun q hq => Nat.ne_of_lt (Nat.lt_of_lt_of_le hq.1.2 (show w6.heap.size ≤ gx0 from by have z0_ := HA0.out; have z1_ := Z1.out; have z2_ := GX0.out; have z3_ := GY0.out; have z4_ := N0.out; omega))) (.int .i64 x0_4))
   clear HB BA0 BX0 HS HY0_0 HY0_1 HY0_2
   have HB := HB_
   have BA0 := BA0_
   have BX0 := BX0_
   have HS := HS_
   have HY0_0 := HY0_0_
   have HY0_1 := HY0_1_
   have HY0_2 := HY0_2_
   clear HB_ BA0_ BX0_ HS_ HY0_0_ HY0_1_ HY0_2_
   clear hcBA00 hfBA00 hcBA01 hfBA01 hcBA02 hfBA02 hcBA03 hfBA03 hcBA04 hfBA04 hcBX00 hfBX00 hcBX01 hfBX01 hcBX02 hfBX02 hcBX03 hfBX03 hcBX04 hfBX04
   obtain ⟨w8, hw_⟩ : ∃ w_, w_ = (((((w7.setCell ⟨gx0, 0, none⟩ (.slice Ax0_0 x0_0.length cx0_0)).setCell ⟨gx0, 1, none⟩ (.slice Ax0_1 x0_1.length cx0_1)).setCell ⟨gx0, 2, none⟩ (.slice Ax0_2 x0_2.length cx0_2)).setCell ⟨gx0, 3, none⟩ (.int .i64 x0_3)).setCell ⟨gx0, 4, none⟩ (.int .i64 x0_4)) := ⟨_, rfl⟩
   rw [← hw_] at HB BA0 BX0 HS HY0_0 HY0_1 HY0_2 ⊢
   have Z2 := Aside0.mk ((by rw [hw_]; simp) : w7.heap.size ≤ w8.heap.size)
   clear hw_
   have hcBA00 : w8.cell? ⟨ga0, 0, none⟩ = some (.slice A0_0 l0_0.length c0_0) := (blk_cell BA0.out 0).trans rfl
   have hfBA00 := blk_frozen BA0.out 0
   have hcBA01 : w8.cell? ⟨ga0, 1, none⟩ = some (.slice A0_1 l0_1.length c0_1) := (blk_cell BA0.out 1).trans rfl
   have hfBA01 := blk_frozen BA0.out 1
   have hcBA02 : w8.cell? ⟨ga0, 2, none⟩ = some (.slice A0_2 l0_2.length c0_2) := (blk_cell BA0.out 2).trans rfl
   have hfBA02 := blk_frozen BA0.out 2
   have hcBA03 : w8.cell? ⟨ga0, 3, none⟩ = some (.int .i64 a0_3) := (blk_cell BA0.out 3).trans rfl
   have hfBA03 := blk_frozen BA0.out 3
   have hcBA04 : w8.cell? ⟨ga0, 4, none⟩ = some (.int .i64 a0_4) := (blk_cell BA0.out 4).trans rfl
   have hfBA04 := blk_frozen BA0.out 4
   have hcBX00 : w8.cell? ⟨gx0, 0, none⟩ = some (.slice Ax0_0 x0_0.length cx0_0) := (blk_cell BX0.out 0).trans rfl
   have hfBX00 := blk_frozen BX0.out 0
   have hcBX01 : w8.cell? ⟨gx0, 1, none⟩ = some (.slice Ax0_1 x0_1.length cx0_1) := (blk_cell BX0.out 1).trans rfl
   have hfBX01 := blk_frozen BX0.out 1
   have hcBX02 : w8.cell? ⟨gx0, 2, none⟩ = some (.slice Ax0_2 x0_2.length cx0_2) := (blk_cell BX0.out 2).trans rfl
   have hfBX02 := blk_frozen BX0.out 2
   have hcBX03 : w8.cell? ⟨gx0, 3, none⟩ = some (.int .i64 x0_3) := (blk_cell BX0.out 3).trans rfl
   have hfBX03 := blk_frozen BX0.out 3
   have hcBX04 : w8.cell? ⟨gx0, 4, none⟩ = some (.int .i64 x0_4) := (blk_cell BX0.out 4).trans rfl
   have hfBX04 := blk_frozen BX0.out 4
   go_wp2_with (first | (go_at_call 37; (with_reducible refine (laws_toInt64S.calls k A1 c1 l1 x1 _ (Kd.C_below HR1.out HB.out) HC1.out BT1.out).mono ?_); rintro e w9 ⟨v0, rfl, ho0, hb⟩; have HX1 := Aside0.mk ho0; have Z3 := Aside0.mk (hb.size); have HB_ := Aside0.mk (below_step HB.out hb); have BA0_ := Aside0.mk (blk_below (g := ga0) (o := .cells #[.slice A0_0 l0_0.length c0_0, .slice A0_1 l0_1.length c0_1, .slice A0_2 l0_2.length c0_2, .int .i64 a0_3, .int .i64 a0_4] 53 (0, 0)) BA0.out hb); have BX0_ := Aside0.mk (blk_below (g := gx0) (o := .cells #[.slice Ax0_0 x0_0.length cx0_0, .slice Ax0_1 x0_1.length cx0_1, .slice Ax0_2 x0_2.length cx0_2, .int .i64 x0_3, .int .i64 x0_4] 27 (0, 0)) BX0.out hb); have HS_ := Aside0.mk (Kd.S_below HS.out hb); have HY0_0_ := Aside0.mk (Kd.R_below HY0_0.out hb); have HY0_1_ := Aside0.mk (Kd.R_below HY0_1.out hb); have HY0_2_ := Aside0.mk (Kd.R_below HY0_2.out hb); clear hb ho0; clear HB BA0 BX0 HS HY0_0 HY0_1 HY0_2; have HB := HB_; have BA0 := BA0_; have BX0 := BX0_; have HS := HS_; have HY0_0 := HY0_0_; have HY0_1 := HY0_1_; have HY0_2 := HY0_2_; clear HB_ BA0_ BX0_ HS_ HY0_0_ HY0_1_ HY0_2_; clear hcBA00 hfBA00 hcBA01 hfBA01 hcBA02 hfBA02 hcBA03 hfBA03 hcBA04 hfBA04 hcBX00 hfBX00 hcBX01 hfBX01 hcBX02 hfBX02 hcBX03 hfBX03 hcBX04 hfBX04; have hcBA00 : w9.cell? ⟨ga0, 0, none⟩ = some (.slice A0_0 l0_0.length c0_0) := (blk_cell BA0.out 0).trans rfl; have hfBA00 := blk_frozen BA0.out 0; have hcBA01 : w9.cell? ⟨ga0, 1, none⟩ = some (.slice A0_1 l0_1.length c0_1) := (blk_cell BA0.out 1).trans rfl; have hfBA01 := blk_frozen BA0.out 1; have hcBA02 : w9.cell? ⟨ga0, 2, none⟩ = some (.slice A0_2 l0_2.length c0_2) := (blk_cell BA0.out 2).trans rfl; have hfBA02 := blk_frozen BA0.out 2; have hcBA03 : w9.cell? ⟨ga0, 3, none⟩ = some (.int .i64 a0_3) := (blk_cell BA0.out 3).trans rfl; have hfBA03 := blk_frozen BA0.out 3; have hcBA04 : w9.cell? ⟨ga0, 4, none⟩ = some (.int .i64 a0_4) := (blk_cell BA0.out 4).trans rfl; have hfBA04 := blk_frozen BA0.out 4; have hcBX00 : w9.cell? ⟨gx0, 0, none⟩ = some (.slice Ax0_0 x0_0.length cx0_0) := (blk_cell BX0.out 0).trans rfl; have hfBX00 := blk_frozen BX0.out 0; have hcBX01 : w9.cell? ⟨gx0, 1, none⟩ = some (.slice Ax0_1 x0_1.length cx0_1) := (blk_cell BX0.out 1).trans rfl; have hfBX01 := blk_frozen BX0.out 1; have hcBX02 : w9.cell? ⟨gx0, 2, none⟩ = some (.slice Ax0_2 x0_2.length cx0_2) := (blk_cell BX0.out 2).trans rfl; have hfBX02 := blk_frozen BX0.out 2; have hcBX03 : w9.cell? ⟨gx0, 3, none⟩ = some (.int .i64 x0_3) := (blk_cell BX0.out 3).trans rfl; have hfBX03 := blk_frozen BX0.out 3; have hcBX04 : w9.cell? ⟨gx0, 4, none⟩ = some (.int .i64 x0_4) := (blk_cell BX0.out 4).trans rfl; have hfBX04 := blk_frozen BX0.out 4; obtain ⟨Ax1, cx1, ex1⟩ := Kd.R_slice HX1.out; subst ex1; have HY1 := Aside0.mk (Kd.R_mono (ok' := (fun q => (w8.heap.size ≤ q ∧ q < w9.heap.size) ∧ True)) (Kd.R_bound HX1.out) (fun q hq => ⟨⟨hq.2.1, hq.2.2.1⟩, trivial⟩)); clear HX1))
   have NG := Aside0.mk HB.out.size
   have NL0 := Aside0.mk ((by have z0_ := HA0.out; have z1_ := Z1.out; have z2_ := GX0.out; have z3_ := GY0.out; have z4_ := Z2.out; have z5_ := Z3.out; have z6_ := N0.out; omega) : w.heap.size ≤ w5.heap.size)
   have NL1 := Aside0.mk ((by have z0_ := HA0.out; have z1_ := Z1.out; have z2_ := GX0.out; have z3_ := GY0.out; have z4_ := Z2.out; have z5_ := Z3.out; have z6_ := N0.out; omega) : w.heap.size ≤ w8.heap.size)
   go_wp2_with (first | (go_at_call 20; (with_reducible refine (impl_PlanFor.calls k Ax0_0 cx0_0 x0_0 Ax0_1 cx0_1 x0_1 Ax0_2 cx0_2 x0_2 x0_3 x0_4 Ax1 cx1 x1 g0 g1 _ (Kd.R_reads' HY0_0.out).2.2 (Kd.R_reads' HY0_0.out).2.1 (Kd.R_reads' HY0_1.out).2.2 (Kd.R_reads' HY0_1.out).2.1 (Kd.R_reads' HY0_2.out).2.2 (Kd.R_reads' HY0_2.out).2.1 (Kd.R_reads' HY1.out).2.2 (Kd.R_reads' HY1.out).2.1 BG.out).mono ?_); rintro e w10 ⟨v0, rfl, ho, hb⟩; have HO := Aside0.mk ho; have HB_ := Aside0.mk (below_step HB.out hb); have BA0_ := Aside0.mk (blk_below (g := ga0) (o := .cells #[.slice A0_0 l0_0.length c0_0, .slice A0_1 l0_1.length c0_1, .slice A0_2 l0_2.length c0_2, .int .i64 a0_3, .int .i64 a0_4] 53 (0, 0)) BA0.out hb); have BX0_ := Aside0.mk (blk_below (g := gx0) (o := .cells #[.slice Ax0_0 x0_0.length cx0_0, .slice Ax0_1 x0_1.length cx0_1, .slice Ax0_2 x0_2.length cx0_2, .int .i64 x0_3, .int .i64 x0_4] 27 (0, 0)) BX0.out hb); have HS_ := Aside0.mk (Kd.S_below HS.out hb); have HY0_0_ := Aside0.mk (Kd.R_below HY0_0.out hb); have HY0_1_ := Aside0.mk (Kd.R_below HY0_1.out hb); have HY0_2_ := Aside0.mk (Kd.R_below HY0_2.out hb); have HY1_ := Aside0.mk (Kd.R_below HY1.out hb); clear hb ho; clear HB BA0 BX0 HS HY0_0 HY0_1 HY0_2 HY1; have HB := HB_; have BA0 := BA0_; have BX0 := BX0_; have HS := HS_; have HY0_0 := HY0_0_; have HY0_1 := HY0_1_; have HY0_2 := HY0_2_; have HY1 := HY1_; clear HB_ BA0_ BX0_ HS_ HY0_0_ HY0_1_ HY0_2_ HY1_; clear hcBA00 hfBA00 hcBA01 hfBA01 hcBA02 hfBA02 hcBA03 hfBA03 hcBA04 hfBA04 hcBX00 hfBX00 hcBX01 hfBX01 hcBX02 hfBX02 hcBX03 hfBX03 hcBX04 hfBX04; have hcBA00 : w10.cell? ⟨ga0, 0, none⟩ = some (.slice A0_0 l0_0.length c0_0) := (blk_cell BA0.out 0).trans rfl; have hfBA00 := blk_frozen BA0.out 0; have hcBA01 : w10.cell? ⟨ga0, 1, none⟩ = some (.slice A0_1 l0_1.length c0_1) := (blk_cell BA0.out 1).trans rfl; have hfBA01 := blk_frozen BA0.out 1; have hcBA02 : w10.cell? ⟨ga0, 2, none⟩ = some (.slice A0_2 l0_2.length c0_2) := (blk_cell BA0.out 2).trans rfl; have hfBA02 := blk_frozen BA0.out 2; have hcBA03 : w10.cell? ⟨ga0, 3, none⟩ = some (.int .i64 a0_3) := (blk_cell BA0.out 3).trans rfl; have hfBA03 := blk_frozen BA0.out 3; have hcBA04 : w10.cell? ⟨ga0, 4, none⟩ = some (.int .i64 a0_4) := (blk_cell BA0.out 4).trans rfl; have hfBA04 := blk_frozen BA0.out 4; have hcBX00 : w10.cell? ⟨gx0, 0, none⟩ = some (.slice Ax0_0 x0_0.length cx0_0) := (blk_cell BX0.out 0).trans rfl; have hfBX00 := blk_frozen BX0.out 0; have hcBX01 : w10.cell? ⟨gx0, 1, none⟩ = some (.slice Ax0_1 x0_1.length cx0_1) := (blk_cell BX0.out 1).trans rfl; have hfBX01 := blk_frozen BX0.out 1; have hcBX02 : w10.cell? ⟨gx0, 2, none⟩ = some (.slice Ax0_2 x0_2.length cx0_2) := (blk_cell BX0.out 2).trans rfl; have hfBX02 := blk_frozen BX0.out 2; have hcBX03 : w10.cell? ⟨gx0, 3, none⟩ = some (.int .i64 x0_3) := (blk_cell BX0.out 3).trans rfl; have hfBX03 := blk_frozen BX0.out 3; have hcBX04 : w10.cell? ⟨gx0, 4, none⟩ = some (.int .i64 x0_4) := (blk_cell BX0.out 4).trans rfl; have hfBX04 := blk_frozen BX0.out 4))
   obtain ⟨Ag, cg, eg⟩ := Kd.S_slice HO.out
   subst eg
   have HG := Aside0.mk (Kd.S_mono (ok' := fun q => w9.heap.size ≤ q) (Kd.S_bound HO.out) (fun q hq => hq.2.1))
   clear HO
   go_wp2_with (first | (go_at_call 31; (with_reducible refine (laws_eqStopS.calls k Ag cg g0 As cs s0 true _ (Kd.S_reads' HG.out).2.2 (Kd.S_reads' HG.out).2.1 (Kd.S_reads' HS.out).2.2 (Kd.S_reads' HS.out).2.1 BE.out).mono ?_); rintro e w11 ⟨rfl, hb⟩; have HB_ := Aside0.mk (below_step HB.out hb); have BA0_ := Aside0.mk (blk_below (g := ga0) (o := .cells #[.slice A0_0 l0_0.length c0_0, .slice A0_1 l0_1.length c0_1, .slice A0_2 l0_2.length c0_2, .int .i64 a0_3, .int .i64 a0_4] 53 (0, 0)) BA0.out hb); have BX0_ := Aside0.mk (blk_below (g := gx0) (o := .cells #[.slice Ax0_0 x0_0.length cx0_0, .slice Ax0_1 x0_1.length cx0_1, .slice Ax0_2 x0_2.length cx0_2, .int .i64 x0_3, .int .i64 x0_4] 27 (0, 0)) BX0.out hb); have HS_ := Aside0.mk (Kd.S_below HS.out hb); have HY0_0_ := Aside0.mk (Kd.R_below HY0_0.out hb); have HY0_1_ := Aside0.mk (Kd.R_below HY0_1.out hb); have HY0_2_ := Aside0.mk (Kd.R_below HY0_2.out hb); have HY1_ := Aside0.mk (Kd.R_below HY1.out hb); have HG_ := Aside0.mk (Kd.S_below HG.out hb); clear hb; clear HB BA0 BX0 HS HY0_0 HY0_1 HY0_2 HY1 HG; have HB := HB_; have BA0 := BA0_; have BX0 := BX0_; have HS := HS_; have HY0_0 := HY0_0_; have HY0_1 := HY0_1_; have HY0_2 := HY0_2_; have HY1 := HY1_; have HG := HG_; clear HB_ BA0_ BX0_ HS_ HY0_0_ HY0_1_ HY0_2_ HY1_ HG_; clear hcBA00 hfBA00 hcBA01 hfBA01 hcBA02 hfBA02 hcBA03 hfBA03 hcBA04 hfBA04 hcBX00 hfBX00 hcBX01 hfBX01 hcBX02 hfBX02 hcBX03 hfBX03 hcBX04 hfBX04; have hcBA00 : w11.cell? ⟨ga0, 0, none⟩ = some (.slice A0_0 l0_0.length c0_0) := (blk_cell BA0.out 0).trans rfl; have hfBA00 := blk_frozen BA0.out 0; have hcBA01 : w11.cell? ⟨ga0, 1, none⟩ = some (.slice A0_1 l0_1.length c0_1) := (blk_cell BA0.out 1).trans rfl; have hfBA01 := blk_frozen BA0.out 1; have hcBA02 : w11.cell? ⟨ga0, 2, none⟩ = some (.slice A0_2 l0_2.length c0_2) := (blk_cell BA0.out 2).trans rfl; have hfBA02 := blk_frozen BA0.out 2; have hcBA03 : w11.cell? ⟨ga0, 3, none⟩ = some (.int .i64 a0_3) := (blk_cell BA0.out 3).trans rfl; have hfBA03 := blk_frozen BA0.out 3; have hcBA04 : w11.cell? ⟨ga0, 4, none⟩ = some (.int .i64 a0_4) := (blk_cell BA0.out 4).trans rfl; have hfBA04 := blk_frozen BA0.out 4; have hcBX00 : w11.cell? ⟨gx0, 0, none⟩ = some (.slice Ax0_0 x0_0.length cx0_0) := (blk_cell BX0.out 0).trans rfl; have hfBX00 := blk_frozen BX0.out 0; have hcBX01 : w11.cell? ⟨gx0, 1, none⟩ = some (.slice Ax0_1 x0_1.length cx0_1) := (blk_cell BX0.out 1).trans rfl; have hfBX01 := blk_frozen BX0.out 1; have hcBX02 : w11.cell? ⟨gx0, 2, none⟩ = some (.slice Ax0_2 x0_2.length cx0_2) := (blk_cell BX0.out 2).trans rfl; have hfBX02 := blk_frozen BX0.out 2; have hcBX03 : w11.cell? ⟨gx0, 3, none⟩ = some (.int .i64 x0_3) := (blk_cell BX0.out 3).trans rfl; have hfBX03 := blk_frozen BX0.out 3; have hcBX04 : w11.cell? ⟨gx0, 4, none⟩ = some (.int .i64 x0_4) := (blk_cell BX0.out 4).trans rfl; have hfBX04 := blk_frozen BX0.out 4))
   try go_wp2
   have HS_ := Aside0.mk (Kd.S_drew HS.out)
   have HY0_0_ := Aside0.mk (Kd.R_drew HY0_0.out)
   have HY0_1_ := Aside0.mk (Kd.R_drew HY0_1.out)
   have HY0_2_ := Aside0.mk (Kd.R_drew HY0_2.out)
   have HY1_ := Aside0.mk (Kd.R_drew HY1.out)
   have HG_ := Aside0.mk (Kd.S_drew HG.out)
   have BA0_ := Aside0.mk (blk_drew BA0.out)
   have BX0_ := Aside0.mk (blk_drew BX0.out)
   have HB_ := Aside0.mk (below_drew1 HB.out)
   clear HS HY0_0 HY0_1 HY0_2 HY1 HG BA0 BX0 HB
   have HS := HS_
   have HY0_0 := HY0_0_
   have HY0_1 := HY0_1_
   have HY0_2 := HY0_2_
   have HY1 := HY1_
   have HG := HG_
   have BA0 := BA0_
   have BX0 := BX0_
   have HB := HB_
   clear HS_ HY0_0_ HY0_1_ HY0_2_ HY1_ HG_ BA0_ BX0_ HB_
   clear hcBA00 hfBA00 hcBA01 hfBA01 hcBA02 hfBA02 hcBA03 hfBA03 hcBA04 hfBA04 hcBX00 hfBX00 hcBX01 hfBX01 hcBX02 hfBX02 hcBX03 hfBX03 hcBX04 hfBX04
   refine start_ (n := 5) (S := fun w' => w'.cell? ⟨gx0, 0, none⟩ = some (.slice Ax0_0 x0_0.length cx0_0) ∧ w'.cell? ⟨gx0, 1, none⟩ = some (.slice Ax0_1 x0_1.length cx0_1) ∧ w'.cell? ⟨gx0, 2, none⟩ = some (.slice Ax0_2 x0_2.length cx0_2) ∧ w'.cell? ⟨gx0, 3, none⟩ = some (.int .i64 x0_3) ∧ w'.cell? ⟨gx0, 4, none⟩ = some (.int .i64 x0_4) ∧ w'.cell? ⟨ga0, 0, none⟩ = some (.slice A0_0 l0_0.length c0_0) ∧ w'.cell? ⟨ga0, 1, none⟩ = some (.slice A0_1 l0_1.length c0_1) ∧ w'.cell? ⟨ga0, 2, none⟩ = some (.slice A0_2 l0_2.length c0_2) ∧ w'.cell? ⟨ga0, 3, none⟩ = some (.int .i64 a0_3) ∧ w'.cell? ⟨ga0, 4, none⟩ = some (.int .i64 a0_4)) (ds := []) #[false, false, false, false, false] (by kernel_rfl) rfl rfl ⟨(blk_cell BX0.out 0).trans rfl, (blk_cell BX0.out 1).trans rfl, (blk_cell BX0.out 2).trans rfl, (blk_cell BX0.out 3).trans rfl, (blk_cell BX0.out 4).trans rfl, (blk_cell BA0.out 0).trans rfl, (blk_cell BA0.out 1).trans rfl, (blk_cell BA0.out 2).trans rfl, (blk_cell BA0.out 3).trans rfl, (blk_cell BA0.out 4).trans rfl⟩ (fun hHeld => ?_)
   generalize w11.drew = w12 at HS HY0_0 HY0_1 HY0_2 HY1 HG BA0 BX0 HB hHeld ⊢
   refine take_ (i := 0) (N := some 52) (v := ?_) (a' := ?_) #[true, false, false, false, false] rfl rfl (by kernel_rfl) (fun _ _ _ h => h) (Or.inl ⟨by rfl, ?_⟩) hHeld ?_ ?_
   rotate_left
   ·rintro w' ⟨s0_, s1_, s2_, s3_, s4_, s5_, s6_, s7_, s8_, s9_⟩
    go_simp
    with_reducible rfl
   rotate_left
   ·simp only [Act.put, List.setIfInBounds_toArray, List.set_cons_zero, List.set_cons_succ, i64_w, i32_w]
    rfl
   refine take_ (i := 1) (N := some 53) (v := ?_) (a' := ?_) #[true, true, false, false, false] rfl rfl (by kernel_rfl) (fun _ _ _ h => h) (Or.inl ⟨by rfl, ?_⟩) hHeld ?_ ?_
   rotate_left
   ·rintro w' ⟨s0_, s1_, s2_, s3_, s4_, s5_, s6_, s7_, s8_, s9_⟩
    go_simp
    with_reducible rfl
   rotate_left
   ·simp only [Act.put, List.setIfInBounds_toArray, List.set_cons_zero, List.set_cons_succ, i64_w, i32_w]
    rfl
   refine one_ (i := 2) (N := some 54) #[true, true, true, false, false] rfl rfl (by kernel_rfl) (by decide) (fun K hK => ?_)
   refine goes_ Try.func26 (by kernel_rfl) rfl #[.agg #[.slice A0_0 l0_0.length c0_0, .slice A0_1 l0_1.length c0_1, .slice A0_2 l0_2.length c0_2, .int .i64 a0_3, .int .i64 a0_4]] (by rfl) rfl rfl (by (try simp only [List.map_toArray, List.map_cons, List.map_nil]); first | done | rfl | (simp only [List.length_drop, List.length_take]; rfl)) ?_
   (with_reducible refine (laws_toHead.calls k A0_0 c0_0 l0_0 A0_1 c0_1 l0_1 A0_2 c0_2 l0_2 a0_3 a0_4 x0_0 x0_1 x0_2 x0_3 x0_4 _ (Kd.C_below HR0_0.out HB.out) HC0_0.out (Kd.C_below HR0_1.out HB.out) HC0_1.out (Kd.C_below HR0_2.out HB.out) HC0_2.out BT0.out).mono ?_)
   rintro e w13 ⟨v0, v1, v2, rfl, ho0, ho1, ho2, hb⟩
   refine ⟨_, rfl, ?_⟩
   have HT0_0 := Aside0.mk ho0
   have HT0_1 := Aside0.mk ho1
   have HT0_2 := Aside0.mk ho2
   have HB_ := Aside0.mk (below_step HB.out hb)
   have BA0_ := Aside0.mk (blk_below (g := ga0) (o := .cells #[.slice A0_0 l0_0.length c0_0, .slice A0_1 l0_1.length c0_1, .slice A0_2 l0_2.length c0_2, .int .i64 a0_3, .int .i64 a0_4] 53 (0, 0)) BA0.out hb)
   have BX0_ := Aside0.mk (blk_below (g := gx0) (o := .cells #[.slice Ax0_0 x0_0.length cx0_0, .slice Ax0_1 x0_1.length cx0_1, .slice Ax0_2 x0_2.length cx0_2, .int .i64 x0_3, .int .i64 x0_4] 27 (0, 0)) BX0.out hb)
   have HS_ := Aside0.mk (Kd.S_below HS.out hb)
   have HY0_0_ := Aside0.mk (Kd.R_below HY0_0.out hb)
   have HY0_1_ := Aside0.mk (Kd.R_below HY0_1.out hb)
   have HY0_2_ := Aside0.mk (Kd.R_below HY0_2.out hb)
   have HY1_ := Aside0.mk (Kd.R_below HY1.out hb)
   have HG_ := Aside0.mk (Kd.S_below HG.out hb)
   clear hb ho0 ho1 ho2
   clear HB BA0 BX0 HS HY0_0 HY0_1 HY0_2 HY1 HG
   have HB := HB_
   have BA0 := BA0_
   have BX0 := BX0_
   have HS := HS_
   have HY0_0 := HY0_0_
   have HY0_1 := HY0_1_
   have HY0_2 := HY0_2_
   have HY1 := HY1_
   have HG := HG_
   clear HB_ BA0_ BX0_ HS_ HY0_0_ HY0_1_ HY0_2_ HY1_ HG_
   have hcBA00 : w13.cell? ⟨ga0, 0, none⟩ = some (.slice A0_0 l0_0.length c0_0) := (blk_cell BA0.out 0).trans rfl
   have hfBA00 := blk_frozen BA0.out 0
   have hcBA01 : w13.cell? ⟨ga0, 1, none⟩ = some (.slice A0_1 l0_1.length c0_1) := (blk_cell BA0.out 1).trans rfl
   have hfBA01 := blk_frozen BA0.out 1
   have hcBA02 : w13.cell? ⟨ga0, 2, none⟩ = some (.slice A0_2 l0_2.length c0_2) := (blk_cell BA0.out 2).trans rfl
   have hfBA02 := blk_frozen BA0.out 2
   have hcBA03 : w13.cell? ⟨ga0, 3, none⟩ = some (.int .i64 a0_3) := (blk_cell BA0.out 3).trans rfl
   have hfBA03 := blk_frozen BA0.out 3
   have hcBA04 : w13.cell? ⟨ga0, 4, none⟩ = some (.int .i64 a0_4) := (blk_cell BA0.out 4).trans rfl
   have hfBA04 := blk_frozen BA0.out 4
   have hcBX00 : w13.cell? ⟨gx0, 0, none⟩ = some (.slice Ax0_0 x0_0.length cx0_0) := (blk_cell BX0.out 0).trans rfl
   have hfBX00 := blk_frozen BX0.out 0
   have hcBX01 : w13.cell? ⟨gx0, 1, none⟩ = some (.slice Ax0_1 x0_1.length cx0_1) := (blk_cell BX0.out 1).trans rfl
   have hfBX01 := blk_frozen BX0.out 1
   have hcBX02 : w13.cell? ⟨gx0, 2, none⟩ = some (.slice Ax0_2 x0_2.length cx0_2) := (blk_cell BX0.out 2).trans rfl
   have hfBX02 := blk_frozen BX0.out 2
   have hcBX03 : w13.cell? ⟨gx0, 3, none⟩ = some (.int .i64 x0_3) := (blk_cell BX0.out 3).trans rfl
   have hfBX03 := blk_frozen BX0.out 3
   have hcBX04 : w13.cell? ⟨gx0, 4, none⟩ = some (.int .i64 x0_4) := (blk_cell BX0.out 4).trans rfl
   have hfBX04 := blk_frozen BX0.out 4
   clear hcBA00 hfBA00 hcBA01 hfBA01 hcBA02 hfBA02 hcBA03 hfBA03 hcBA04 hfBA04 hcBX00 hfBX00 hcBX01 hfBX01 hcBX02 hfBX02 hcBX03 hfBX03 hcBX04 hfBX04
   obtain ⟨Ar0_0, cr0_0, er0_0⟩ := Kd.R_slice HT0_0.out
   subst er0_0
   obtain ⟨Ar0_1, cr0_1, er0_1⟩ := Kd.R_slice HT0_1.out
   subst er0_1
   obtain ⟨Ar0_2, cr0_2, er0_2⟩ := Kd.R_slice HT0_2.out
   subst er0_2
   refine hK.out _ _ ⟨(blk_cell BX0.out 0).trans rfl, (blk_cell BX0.out 1).trans rfl, (blk_cell BX0.out 2).trans rfl, (blk_cell BX0.out 3).trans rfl, (blk_cell BX0.out 4).trans rfl, (blk_cell BA0.out 0).trans rfl, (blk_cell BA0.out 1).trans rfl, (blk_cell BA0.out 2).trans rfl, (blk_cell BA0.out 3).trans rfl, (blk_cell BA0.out 4).trans rfl⟩ (fun hHeld => ?_)
   clear hK K
   refine norm_ (a' := ?_) ?_ ?_
   rotate_left
   ·show Act.put _ (some 54) _ = _
    simp only [Act.put, List.setIfInBounds_toArray, List.set_cons_zero, List.set_cons_succ, i64_w, i32_w]
    rfl
   refine one_ (i := 3) (N := some 55) #[true, true, true, true, false] rfl rfl (by kernel_rfl) (by decide) (fun K hK => ?_)
   refine goes_ Try.func30 (by kernel_rfl) rfl #[.agg #[.slice Ax0_0 x0_0.length cx0_0, .slice Ax0_1 x0_1.length cx0_1, .slice Ax0_2 x0_2.length cx0_2, .int .i64 x0_3, .int .i64 x0_4], .agg #[.slice Ar0_0 x0_0.length cr0_0, .slice Ar0_1 x0_1.length cr0_1, .slice Ar0_2 x0_2.length cr0_2, .int .i64 x0_3, .int .i64 x0_4]] (by rfl) rfl rfl (by (try simp only [List.map_toArray, List.map_cons, List.map_nil]); first | done | rfl | (simp only [List.length_drop, List.length_take]; rfl)) ?_
   (with_reducible refine (laws_eqHead.calls k Ax0_0 cx0_0 x0_0 Ax0_1 cx0_1 x0_1 Ax0_2 cx0_2 x0_2 x0_3 x0_4 Ar0_0 cr0_0 x0_0 Ar0_1 cr0_1 x0_1 Ar0_2 cr0_2 x0_2 x0_3 x0_4 true _ (Kd.R_reads' HY0_0.out).2.2 (Kd.R_reads' HY0_0.out).2.1 (Kd.R_reads' HY0_1.out).2.2 (Kd.R_reads' HY0_1.out).2.1 (Kd.R_reads' HY0_2.out).2.2 (Kd.R_reads' HY0_2.out).2.1 (Kd.R_reads' HT0_0.out).2.2 (Kd.R_reads' HT0_0.out).2.1 (Kd.R_reads' HT0_1.out).2.2 (Kd.R_reads' HT0_1.out).2.1 (Kd.R_reads' HT0_2.out).2.2 (Kd.R_reads' HT0_2.out).2.1 BQ0.out).mono ?_)
   rintro e w14 ⟨rfl, hb⟩
   refine ⟨_, rfl, ?_⟩
   have HB_ := Aside0.mk (below_step HB.out hb)
   have BA0_ := Aside0.mk (blk_below (g := ga0) (o := .cells #[.slice A0_0 l0_0.length c0_0, .slice A0_1 l0_1.length c0_1, .slice A0_2 l0_2.length c0_2, .int .i64 a0_3, .int .i64 a0_4] 53 (0, 0)) BA0.out hb)
   have BX0_ := Aside0.mk (blk_below (g := gx0) (o := .cells #[.slice Ax0_0 x0_0.length cx0_0, .slice Ax0_1 x0_1.length cx0_1, .slice Ax0_2 x0_2.length cx0_2, .int .i64 x0_3, .int .i64 x0_4] 27 (0, 0)) BX0.out hb)
   have HS_ := Aside0.mk (Kd.S_below HS.out hb)
   have HY0_0_ := Aside0.mk (Kd.R_below HY0_0.out hb)
   have HY0_1_ := Aside0.mk (Kd.R_below HY0_1.out hb)
   have HY0_2_ := Aside0.mk (Kd.R_below HY0_2.out hb)
   have HY1_ := Aside0.mk (Kd.R_below HY1.out hb)
   have HG_ := Aside0.mk (Kd.S_below HG.out hb)
   clear hb HT0_0 HT0_1 HT0_2
   clear HB BA0 BX0 HS HY0_0 HY0_1 HY0_2 HY1 HG
   have HB := HB_
   have BA0 := BA0_
   have BX0 := BX0_
   have HS := HS_
   have HY0_0 := HY0_0_
   have HY0_1 := HY0_1_
   have HY0_2 := HY0_2_
   have HY1 := HY1_
   have HG := HG_
   clear HB_ BA0_ BX0_ HS_ HY0_0_ HY0_1_ HY0_2_ HY1_ HG_
   have hcBA00 : w14.cell? ⟨ga0, 0, none⟩ = some (.slice A0_0 l0_0.length c0_0) := (blk_cell BA0.out 0).trans rfl
   have hfBA00 := blk_frozen BA0.out 0
   have hcBA01 : w14.cell? ⟨ga0, 1, none⟩ = some (.slice A0_1 l0_1.length c0_1) := (blk_cell BA0.out 1).trans rfl
   have hfBA01 := blk_frozen BA0.out 1
   have hcBA02 : w14.cell? ⟨ga0, 2, none⟩ = some (.slice A0_2 l0_2.length c0_2) := (blk_cell BA0.out 2).trans rfl
   have hfBA02 := blk_frozen BA0.out 2
   have hcBA03 : w14.cell? ⟨ga0, 3, none⟩ = some (.int .i64 a0_3) := (blk_cell BA0.out 3).trans rfl
   have hfBA03 := blk_frozen BA0.out 3
   have hcBA04 : w14.cell? ⟨ga0, 4, none⟩ = some (.int .i64 a0_4) := (blk_cell BA0.out 4).trans rfl
   have hfBA04 := blk_frozen BA0.out 4
   have hcBX00 : w14.cell? ⟨gx0, 0, none⟩ = some (.slice Ax0_0 x0_0.length cx0_0) := (blk_cell BX0.out 0).trans rfl
   have hfBX00 := blk_frozen BX0.out 0
   have hcBX01 : w14.cell? ⟨gx0, 1, none⟩ = some (.slice Ax0_1 x0_1.length cx0_1) := (blk_cell BX0.out 1).trans rfl
   have hfBX01 := blk_frozen BX0.out 1
   have hcBX02 : w14.cell? ⟨gx0, 2, none⟩ = some (.slice Ax0_2 x0_2.length cx0_2) := (blk_cell BX0.out 2).trans rfl
   have hfBX02 := blk_frozen BX0.out 2
   have hcBX03 : w14.cell? ⟨gx0, 3, none⟩ = some (.int .i64 x0_3) := (blk_cell BX0.out 3).trans rfl
   have hfBX03 := blk_frozen BX0.out 3
   have hcBX04 : w14.cell? ⟨gx0, 4, none⟩ = some (.int .i64 x0_4) := (blk_cell BX0.out 4).trans rfl
   have hfBX04 := blk_frozen BX0.out 4
   clear hcBA00 hfBA00 hcBA01 hfBA01 hcBA02 hfBA02 hcBA03 hfBA03 hcBA04 hfBA04 hcBX00 hfBX00 hcBX01 hfBX01 hcBX02 hfBX02 hcBX03 hfBX03 hcBX04 hfBX04
   refine hK.out _ _ ⟨(blk_cell BX0.out 0).trans rfl, (blk_cell BX0.out 1).trans rfl, (blk_cell BX0.out 2).trans rfl, (blk_cell BX0.out 3).trans rfl, (blk_cell BX0.out 4).trans rfl, (blk_cell BA0.out 0).trans rfl, (blk_cell BA0.out 1).trans rfl, (blk_cell BA0.out 2).trans rfl, (blk_cell BA0.out 3).trans rfl, (blk_cell BA0.out 4).trans rfl⟩ (fun hHeld => ?_)
   clear hK K
   refine norm_ (a' := ?_) ?_ ?_
   rotate_left
   ·show Act.put _ (some 55) _ = _
    simp only [Act.put, List.setIfInBounds_toArray, List.set_cons_zero, List.set_cons_succ, i64_w, i32_w]
    rfl
   refine pure_ (i := 4) (N := some 56) (v := ?_) (a' := ?_) #[true, true, true, true, true] rfl rfl (by kernel_rfl) (fun _ _ _ h => h) (Or.inl ⟨by rfl, ?_⟩) ?_ ?_
   rotate_left
   ·intro w'
    go_simp
    with_reducible rfl
   rotate_left
   ·simp only [Act.put, List.setIfInBounds_toArray, List.set_cons_zero, List.set_cons_succ, i64_w, i32_w]
    rfl
   refine done_ (by kernel_rfl) ?_
   have hcBA00 : w14.cell? ⟨ga0, 0, none⟩ = some (.slice A0_0 l0_0.length c0_0) := (blk_cell BA0.out 0).trans rfl
   have hfBA00 := blk_frozen BA0.out 0
   have hcBA01 : w14.cell? ⟨ga0, 1, none⟩ = some (.slice A0_1 l0_1.length c0_1) := (blk_cell BA0.out 1).trans rfl
   have hfBA01 := blk_frozen BA0.out 1
   have hcBA02 : w14.cell? ⟨ga0, 2, none⟩ = some (.slice A0_2 l0_2.length c0_2) := (blk_cell BA0.out 2).trans rfl
   have hfBA02 := blk_frozen BA0.out 2
   have hcBA03 : w14.cell? ⟨ga0, 3, none⟩ = some (.int .i64 a0_3) := (blk_cell BA0.out 3).trans rfl
   have hfBA03 := blk_frozen BA0.out 3
   have hcBA04 : w14.cell? ⟨ga0, 4, none⟩ = some (.int .i64 a0_4) := (blk_cell BA0.out 4).trans rfl
   have hfBA04 := blk_frozen BA0.out 4
   have hcBX00 : w14.cell? ⟨gx0, 0, none⟩ = some (.slice Ax0_0 x0_0.length cx0_0) := (blk_cell BX0.out 0).trans rfl
   have hfBX00 := blk_frozen BX0.out 0
   have hcBX01 : w14.cell? ⟨gx0, 1, none⟩ = some (.slice Ax0_1 x0_1.length cx0_1) := (blk_cell BX0.out 1).trans rfl
   have hfBX01 := blk_frozen BX0.out 1
   have hcBX02 : w14.cell? ⟨gx0, 2, none⟩ = some (.slice Ax0_2 x0_2.length cx0_2) := (blk_cell BX0.out 2).trans rfl
   have hfBX02 := blk_frozen BX0.out 2
   have hcBX03 : w14.cell? ⟨gx0, 3, none⟩ = some (.int .i64 x0_3) := (blk_cell BX0.out 3).trans rfl
   have hfBX03 := blk_frozen BX0.out 3
   have hcBX04 : w14.cell? ⟨gx0, 4, none⟩ = some (.int .i64 x0_4) := (blk_cell BX0.out 4).trans rfl
   have hfBX04 := blk_frozen BX0.out 4
   go_wp2_with (first | (go_at_call 37; (with_reducible refine (laws_toInt64S.calls k A1 c1 l1 x1 _ (Kd.C_below HR1.out HB.out) HC1.out BT1.out).mono ?_); rintro e w15 ⟨v0, rfl, ho0, hb⟩; have HT1 := Aside0.mk ho0; have HB_ := Aside0.mk (below_step HB.out hb); have BA0_ := Aside0.mk (blk_below (g := ga0) (o := .cells #[.slice A0_0 l0_0.length c0_0, .slice A0_1 l0_1.length c0_1, .slice A0_2 l0_2.length c0_2, .int .i64 a0_3, .int .i64 a0_4] 53 (0, 0)) BA0.out hb); have BX0_ := Aside0.mk (blk_below (g := gx0) (o := .cells #[.slice Ax0_0 x0_0.length cx0_0, .slice Ax0_1 x0_1.length cx0_1, .slice Ax0_2 x0_2.length cx0_2, .int .i64 x0_3, .int .i64 x0_4] 27 (0, 0)) BX0.out hb); have HS_ := Aside0.mk (Kd.S_below HS.out hb); have HY0_0_ := Aside0.mk (Kd.R_below HY0_0.out hb); have HY0_1_ := Aside0.mk (Kd.R_below HY0_1.out hb); have HY0_2_ := Aside0.mk (Kd.R_below HY0_2.out hb); have HY1_ := Aside0.mk (Kd.R_below HY1.out hb); have HG_ := Aside0.mk (Kd.S_below HG.out hb); clear hb ho0; clear HB BA0 BX0 HS HY0_0 HY0_1 HY0_2 HY1 HG; have HB := HB_; have BA0 := BA0_; have BX0 := BX0_; have HS := HS_; have HY0_0 := HY0_0_; have HY0_1 := HY0_1_; have HY0_2 := HY0_2_; have HY1 := HY1_; have HG := HG_; clear HB_ BA0_ BX0_ HS_ HY0_0_ HY0_1_ HY0_2_ HY1_ HG_; clear hcBA00 hfBA00 hcBA01 hfBA01 hcBA02 hfBA02 hcBA03 hfBA03 hcBA04 hfBA04 hcBX00 hfBX00 hcBX01 hfBX01 hcBX02 hfBX02 hcBX03 hfBX03 hcBX04 hfBX04; have hcBA00 : w15.cell? ⟨ga0, 0, none⟩ = some (.slice A0_0 l0_0.length c0_0) := (blk_cell BA0.out 0).trans rfl; have hfBA00 := blk_frozen BA0.out 0; have hcBA01 : w15.cell? ⟨ga0, 1, none⟩ = some (.slice A0_1 l0_1.length c0_1) := (blk_cell BA0.out 1).trans rfl; have hfBA01 := blk_frozen BA0.out 1; have hcBA02 : w15.cell? ⟨ga0, 2, none⟩ = some (.slice A0_2 l0_2.length c0_2) := (blk_cell BA0.out 2).trans rfl; have hfBA02 := blk_frozen BA0.out 2; have hcBA03 : w15.cell? ⟨ga0, 3, none⟩ = some (.int .i64 a0_3) := (blk_cell BA0.out 3).trans rfl; have hfBA03 := blk_frozen BA0.out 3; have hcBA04 : w15.cell? ⟨ga0, 4, none⟩ = some (.int .i64 a0_4) := (blk_cell BA0.out 4).trans rfl; have hfBA04 := blk_frozen BA0.out 4; have hcBX00 : w15.cell? ⟨gx0, 0, none⟩ = some (.slice Ax0_0 x0_0.length cx0_0) := (blk_cell BX0.out 0).trans rfl; have hfBX00 := blk_frozen BX0.out 0; have hcBX01 : w15.cell? ⟨gx0, 1, none⟩ = some (.slice Ax0_1 x0_1.length cx0_1) := (blk_cell BX0.out 1).trans rfl; have hfBX01 := blk_frozen BX0.out 1; have hcBX02 : w15.cell? ⟨gx0, 2, none⟩ = some (.slice Ax0_2 x0_2.length cx0_2) := (blk_cell BX0.out 2).trans rfl; have hfBX02 := blk_frozen BX0.out 2; have hcBX03 : w15.cell? ⟨gx0, 3, none⟩ = some (.int .i64 x0_3) := (blk_cell BX0.out 3).trans rfl; have hfBX03 := blk_frozen BX0.out 3; have hcBX04 : w15.cell? ⟨gx0, 4, none⟩ = some (.int .i64 x0_4) := (blk_cell BX0.out 4).trans rfl; have hfBX04 := blk_frozen BX0.out 4))
   obtain ⟨Ar1, cr1, er1⟩ := Kd.R_slice HT1.out
   subst er1
   go_wp2_with (first | (go_at_call 29; (with_reducible refine (laws_eqInt64S.calls k Ax1 cx1 x1 Ar1 cr1 x1 true _ (Kd.R_reads' HY1.out).2.2 (Kd.R_reads' HY1.out).2.1 (Kd.R_reads' HT1.out).2.2 (Kd.R_reads' HT1.out).2.1 BQ1.out).mono ?_); rintro e w16 ⟨rfl, hd⟩; have hb := DB.out hd; have HB_ := Aside0.mk (below_step HB.out hb); have BA0_ := Aside0.mk (blk_below (g := ga0) (o := .cells #[.slice A0_0 l0_0.length c0_0, .slice A0_1 l0_1.length c0_1, .slice A0_2 l0_2.length c0_2, .int .i64 a0_3, .int .i64 a0_4] 53 (0, 0)) BA0.out hb); have BX0_ := Aside0.mk (blk_below (g := gx0) (o := .cells #[.slice Ax0_0 x0_0.length cx0_0, .slice Ax0_1 x0_1.length cx0_1, .slice Ax0_2 x0_2.length cx0_2, .int .i64 x0_3, .int .i64 x0_4] 27 (0, 0)) BX0.out hb); have HS_ := Aside0.mk (Kd.S_below HS.out hb); have HY0_0_ := Aside0.mk (Kd.R_below HY0_0.out hb); have HY0_1_ := Aside0.mk (Kd.R_below HY0_1.out hb); have HY0_2_ := Aside0.mk (Kd.R_below HY0_2.out hb); have HY1_ := Aside0.mk (Kd.R_below HY1.out hb); have HG_ := Aside0.mk (Kd.S_below HG.out hb); clear hb hd HT1; clear HB BA0 BX0 HS HY0_0 HY0_1 HY0_2 HY1 HG; have HB := HB_; have BA0 := BA0_; have BX0 := BX0_; have HS := HS_; have HY0_0 := HY0_0_; have HY0_1 := HY0_1_; have HY0_2 := HY0_2_; have HY1 := HY1_; have HG := HG_; clear HB_ BA0_ BX0_ HS_ HY0_0_ HY0_1_ HY0_2_ HY1_ HG_; clear hcBA00 hfBA00 hcBA01 hfBA01 hcBA02 hfBA02 hcBA03 hfBA03 hcBA04 hfBA04 hcBX00 hfBX00 hcBX01 hfBX01 hcBX02 hfBX02 hcBX03 hfBX03 hcBX04 hfBX04; have hcBA00 : w16.cell? ⟨ga0, 0, none⟩ = some (.slice A0_0 l0_0.length c0_0) := (blk_cell BA0.out 0).trans rfl; have hfBA00 := blk_frozen BA0.out 0; have hcBA01 : w16.cell? ⟨ga0, 1, none⟩ = some (.slice A0_1 l0_1.length c0_1) := (blk_cell BA0.out 1).trans rfl; have hfBA01 := blk_frozen BA0.out 1; have hcBA02 : w16.cell? ⟨ga0, 2, none⟩ = some (.slice A0_2 l0_2.length c0_2) := (blk_cell BA0.out 2).trans rfl; have hfBA02 := blk_frozen BA0.out 2; have hcBA03 : w16.cell? ⟨ga0, 3, none⟩ = some (.int .i64 a0_3) := (blk_cell BA0.out 3).trans rfl; have hfBA03 := blk_frozen BA0.out 3; have hcBA04 : w16.cell? ⟨ga0, 4, none⟩ = some (.int .i64 a0_4) := (blk_cell BA0.out 4).trans rfl; have hfBA04 := blk_frozen BA0.out 4; have hcBX00 : w16.cell? ⟨gx0, 0, none⟩ = some (.slice Ax0_0 x0_0.length cx0_0) := (blk_cell BX0.out 0).trans rfl; have hfBX00 := blk_frozen BX0.out 0; have hcBX01 : w16.cell? ⟨gx0, 1, none⟩ = some (.slice Ax0_1 x0_1.length cx0_1) := (blk_cell BX0.out 1).trans rfl; have hfBX01 := blk_frozen BX0.out 1; have hcBX02 : w16.cell? ⟨gx0, 2, none⟩ = some (.slice Ax0_2 x0_2.length cx0_2) := (blk_cell BX0.out 2).trans rfl; have hfBX02 := blk_frozen BX0.out 2; have hcBX03 : w16.cell? ⟨gx0, 3, none⟩ = some (.int .i64 x0_3) := (blk_cell BX0.out 3).trans rfl; have hfBX03 := blk_frozen BX0.out 3; have hcBX04 : w16.cell? ⟨gx0, 4, none⟩ = some (.int .i64 x0_4) := (blk_cell BX0.out 4).trans rfl; have hfBX04 := blk_frozen BX0.out 4))
   go_wp2_with (first | (go_at_call 32; (with_reducible refine (laws_markHead.calls k (fun q => (w5.heap.size ≤ q ∧ q < w6.heap.size) ∧ True) _ x0_0 (fun q => (w5.heap.size ≤ q ∧ q < w6.heap.size) ∧ some q = (.slice Ax0_1 x0_1.length cx0_1 : Value).ownBlock ∧ some q ≠ (.slice Ax0_2 x0_2.length cx0_2 : Value).ownBlock) _ x0_1 (fun q => (w5.heap.size ≤ q ∧ q < w6.heap.size) ∧ some q = (.slice Ax0_2 x0_2.length cx0_2 : Value).ownBlock ∧ some q ≠ (.slice Ax0_1 x0_1.length cx0_1 : Value).ownBlock) _ x0_2 x0_3 x0_4 1 q0 m0_0 m0_1 m0_2 w _ HB.out (Kd.R_lower HY0_0.out NL0.out) (Kd.R_lower HY0_1.out NL0.out) (fun q h1 h2 => absurd h2.2.1 h1.2.2) (Kd.R_lower HY0_2.out NL0.out) (fun q h1 h2 => absurd h2.2.1 h1.2.2) BM0.out).mono ?_); rintro e w17 ⟨rfl, hy0, hy1, hy2, hb, hk⟩; have HB_ := Aside0.mk hb; have BA0_ := Aside0.mk ((hk.2 ga0 (blk_lt BA0.out) (fun hs => by have i_ : w5.heap.size ≤ _ ∧ _ < w6.heap.size := hs.elim (fun h => h.1) (fun h => h.elim (fun h => h.1) (fun h => h.1)); have z0_ := HA0.out; have z1_ := Z1.out; have z2_ := GX0.out; have z3_ := GY0.out; have z4_ := Z2.out; have z5_ := Z3.out; omega)).trans BA0.out); have HS_ := Aside0.mk (Kd.S_step HS.out (fun q hq hlt => hk.2 q hlt (fun hs => by have i_ : w5.heap.size ≤ _ ∧ _ < w6.heap.size := hs.elim (fun h => h.1) (fun h => h.elim (fun h => h.1) (fun h => h.1)); have y_ : q < w5.heap.size := hq; have z0_ := HA0.out; have z1_ := Z1.out; have z2_ := GX0.out; have z3_ := GY0.out; have z4_ := Z2.out; have z5_ := Z3.out; omega))); have HY1_ := Aside0.mk (Kd.R_step HY1.out (fun q hq hlt => hk.2 q hlt (fun hs => by have i_ : w5.heap.size ≤ _ ∧ _ < w6.heap.size := hs.elim (fun h => h.1) (fun h => h.elim (fun h => h.1) (fun h => h.1)); have y_ : w8.heap.size ≤ q ∧ q < w9.heap.size := hq.1; have z0_ := HA0.out; have z1_ := Z1.out; have z2_ := GX0.out; have z3_ := GY0.out; have z4_ := Z2.out; have z5_ := Z3.out; omega))); have HG_ := Aside0.mk (Kd.S_step HG.out (fun q hq hlt => hk.2 q hlt (fun hs => by have i_ : w5.heap.size ≤ _ ∧ _ < w6.heap.size := hs.elim (fun h => h.1) (fun h => h.elim (fun h => h.1) (fun h => h.1)); have y_ : w9.heap.size ≤ q := hq; have z0_ := HA0.out; have z1_ := Z1.out; have z2_ := GX0.out; have z3_ := GY0.out; have z4_ := Z2.out; have z5_ := Z3.out; omega))); clear hy0 hy1 hy2 hb hk HY0_0 HY0_1 HY0_2 BX0; clear HB BA0 HS HY1 HG; have HB := HB_; have BA0 := BA0_; have HS := HS_; have HY1 := HY1_; have HG := HG_; clear HB_ BA0_ HS_ HY1_ HG_; clear hcBA00 hfBA00 hcBA01 hfBA01 hcBA02 hfBA02 hcBA03 hfBA03 hcBA04 hfBA04 hcBX00 hfBX00 hcBX01 hfBX01 hcBX02 hfBX02 hcBX03 hfBX03 hcBX04 hfBX04; have hcBA00 : w17.cell? ⟨ga0, 0, none⟩ = some (.slice A0_0 l0_0.length c0_0) := (blk_cell BA0.out 0).trans rfl; have hfBA00 := blk_frozen BA0.out 0; have hcBA01 : w17.cell? ⟨ga0, 1, none⟩ = some (.slice A0_1 l0_1.length c0_1) := (blk_cell BA0.out 1).trans rfl; have hfBA01 := blk_frozen BA0.out 1; have hcBA02 : w17.cell? ⟨ga0, 2, none⟩ = some (.slice A0_2 l0_2.length c0_2) := (blk_cell BA0.out 2).trans rfl; have hfBA02 := blk_frozen BA0.out 2; have hcBA03 : w17.cell? ⟨ga0, 3, none⟩ = some (.int .i64 a0_3) := (blk_cell BA0.out 3).trans rfl; have hfBA03 := blk_frozen BA0.out 3; have hcBA04 : w17.cell? ⟨ga0, 4, none⟩ = some (.int .i64 a0_4) := (blk_cell BA0.out 4).trans rfl; have hfBA04 := blk_frozen BA0.out 4))
   go_wp2_with (first | (go_at_call 34; (with_reducible refine (laws_markInt64S.calls k (fun q => (w8.heap.size ≤ q ∧ q < w9.heap.size) ∧ True) _ x1 q0 q1 m1_0 w _ HB.out (Kd.R_lower HY1.out NL1.out) BM1.out).mono ?_); rintro e w18 ⟨rfl, hy0, hb, hk⟩; have HB_ := Aside0.mk hb; have BA0_ := Aside0.mk ((hk.2 ga0 (blk_lt BA0.out) (fun hs => by have i_ : w8.heap.size ≤ _ ∧ _ < w9.heap.size := hs.1; have z0_ := HA0.out; have z1_ := Z1.out; have z2_ := GX0.out; have z3_ := GY0.out; have z4_ := Z2.out; have z5_ := Z3.out; omega)).trans BA0.out); have HS_ := Aside0.mk (Kd.S_step HS.out (fun q hq hlt => hk.2 q hlt (fun hs => by have i_ : w8.heap.size ≤ _ ∧ _ < w9.heap.size := hs.1; have y_ : q < w5.heap.size := hq; have z0_ := HA0.out; have z1_ := Z1.out; have z2_ := GX0.out; have z3_ := GY0.out; have z4_ := Z2.out; have z5_ := Z3.out; omega))); have HG_ := Aside0.mk (Kd.S_step HG.out (fun q hq hlt => hk.2 q hlt (fun hs => by have i_ : w8.heap.size ≤ _ ∧ _ < w9.heap.size := hs.1; have y_ : w9.heap.size ≤ q := hq; have z0_ := HA0.out; have z1_ := Z1.out; have z2_ := GX0.out; have z3_ := GY0.out; have z4_ := Z2.out; have z5_ := Z3.out; omega))); clear hy0 hb hk HY1; clear HB BA0 HS HG; have HB := HB_; have BA0 := BA0_; have HS := HS_; have HG := HG_; clear HB_ BA0_ HS_ HG_; clear hcBA00 hfBA00 hcBA01 hfBA01 hcBA02 hfBA02 hcBA03 hfBA03 hcBA04 hfBA04; have hcBA00 : w18.cell? ⟨ga0, 0, none⟩ = some (.slice A0_0 l0_0.length c0_0) := (blk_cell BA0.out 0).trans rfl; have hfBA00 := blk_frozen BA0.out 0; have hcBA01 : w18.cell? ⟨ga0, 1, none⟩ = some (.slice A0_1 l0_1.length c0_1) := (blk_cell BA0.out 1).trans rfl; have hfBA01 := blk_frozen BA0.out 1; have hcBA02 : w18.cell? ⟨ga0, 2, none⟩ = some (.slice A0_2 l0_2.length c0_2) := (blk_cell BA0.out 2).trans rfl; have hfBA02 := blk_frozen BA0.out 2; have hcBA03 : w18.cell? ⟨ga0, 3, none⟩ = some (.int .i64 a0_3) := (blk_cell BA0.out 3).trans rfl; have hfBA03 := blk_frozen BA0.out 3; have hcBA04 : w18.cell? ⟨ga0, 4, none⟩ = some (.int .i64 a0_4) := (blk_cell BA0.out 4).trans rfl; have hfBA04 := blk_frozen BA0.out 4))
   go_wp2_with (first | (go_at_call 31; (with_reducible refine (laws_eqStopS.calls k Ag cg g0 As cs s0 true _ (Kd.S_reads' HG.out).2.2 (Kd.S_reads' HG.out).2.1 (Kd.S_reads' HS.out).2.2 (Kd.S_reads' HS.out).2.1 BE.out).mono ?_); rintro e w19 ⟨rfl, hb⟩; have HB_ := Aside0.mk (below_step HB.out hb); have BA0_ := Aside0.mk (blk_below (g := ga0) (o := .cells #[.slice A0_0 l0_0.length c0_0, .slice A0_1 l0_1.length c0_1, .slice A0_2 l0_2.length c0_2, .int .i64 a0_3, .int .i64 a0_4] 53 (0, 0)) BA0.out hb); have HS_ := Aside0.mk (Kd.S_below HS.out hb); have HG_ := Aside0.mk (Kd.S_below HG.out hb); clear hb; clear HB BA0 HS HG; have HB := HB_; have BA0 := BA0_; have HS := HS_; have HG := HG_; clear HB_ BA0_ HS_ HG_; clear hcBA00 hfBA00 hcBA01 hfBA01 hcBA02 hfBA02 hcBA03 hfBA03 hcBA04 hfBA04; have hcBA00 : w19.cell? ⟨ga0, 0, none⟩ = some (.slice A0_0 l0_0.length c0_0) := (blk_cell BA0.out 0).trans rfl; have hfBA00 := blk_frozen BA0.out 0; have hcBA01 : w19.cell? ⟨ga0, 1, none⟩ = some (.slice A0_1 l0_1.length c0_1) := (blk_cell BA0.out 1).trans rfl; have hfBA01 := blk_frozen BA0.out 1; have hcBA02 : w19.cell? ⟨ga0, 2, none⟩ = some (.slice A0_2 l0_2.length c0_2) := (blk_cell BA0.out 2).trans rfl; have hfBA02 := blk_frozen BA0.out 2; have hcBA03 : w19.cell? ⟨ga0, 3, none⟩ = some (.int .i64 a0_3) := (blk_cell BA0.out 3).trans rfl; have hfBA03 := blk_frozen BA0.out 3; have hcBA04 : w19.cell? ⟨ga0, 4, none⟩ = some (.int .i64 a0_4) := (blk_cell BA0.out 4).trans rfl; have hfBA04 := blk_frozen BA0.out 4))
   have NH := Aside0.mk HB.out.size
   go_wp2_with (first | (go_at_call 33; (with_reducible refine (laws_markStopS.calls k (fun q => w9.heap.size ≤ q) _ g0 1 th lk w _ HB.out (Kd.S_lower HG.out NG.out) BK.out).mono ?_); rintro e w20 ⟨rfl, hy, hb, hk⟩; have HB_ := Aside0.mk hb; have BA0_ := Aside0.mk ((hk.2 ga0 (blk_lt BA0.out) (fun hs => by have i_ : w9.heap.size ≤ _ := hs; have z0_ := HA0.out; have z1_ := Z1.out; have z2_ := GX0.out; have z3_ := GY0.out; have z4_ := Z2.out; have z5_ := Z3.out; omega)).trans BA0.out); have HS_ := Aside0.mk (Kd.S_step HS.out (fun q hq hlt => hk.2 q hlt (fun hs => by have y_ : q < w5.heap.size := hq; have i_ : w9.heap.size ≤ q := hs; have z0_ := HA0.out; have z1_ := Z1.out; have z2_ := GX0.out; have z3_ := GY0.out; have z4_ := Z2.out; have z5_ := Z3.out; omega))); have HG_ := Aside0.mk hy; clear hy hb hk; clear HB BA0 HS HG; have HB := HB_; have BA0 := BA0_; have HS := HS_; have HG := HG_; clear HB_ BA0_ HS_ HG_; clear hcBA00 hfBA00 hcBA01 hfBA01 hcBA02 hfBA02 hcBA03 hfBA03 hcBA04 hfBA04; have hcBA00 : w20.cell? ⟨ga0, 0, none⟩ = some (.slice A0_0 l0_0.length c0_0) := (blk_cell BA0.out 0).trans rfl; have hfBA00 := blk_frozen BA0.out 0; have hcBA01 : w20.cell? ⟨ga0, 1, none⟩ = some (.slice A0_1 l0_1.length c0_1) := (blk_cell BA0.out 1).trans rfl; have hfBA01 := blk_frozen BA0.out 1; have hcBA02 : w20.cell? ⟨ga0, 2, none⟩ = some (.slice A0_2 l0_2.length c0_2) := (blk_cell BA0.out 2).trans rfl; have hfBA02 := blk_frozen BA0.out 2; have hcBA03 : w20.cell? ⟨ga0, 3, none⟩ = some (.int .i64 a0_3) := (blk_cell BA0.out 3).trans rfl; have hfBA03 := blk_frozen BA0.out 3; have hcBA04 : w20.cell? ⟨ga0, 4, none⟩ = some (.int .i64 a0_4) := (blk_cell BA0.out 4).trans rfl; have hfBA04 := blk_frozen BA0.out 4))
   have HL := Aside0.mk (Kd.S_reads' HG.out).1
   rw [HL.out]
   go_wp2_with (first | (go_at_call 38; (with_reducible refine (laws_heldStopS.calls k Ag cg lk 1 th _ (Kd.S_reads' HG.out).2.2 (by have z_ := (Kd.S_reads' HG.out).2.1; rw [HL.out] at z_; exact z_) BH.out).mono ?_); rintro e w21 ⟨rfl, hd⟩; have hb := DB.out hd; have HB_ := Aside0.mk (below_step HB.out hb); have BA0_ := Aside0.mk (blk_below (g := ga0) (o := .cells #[.slice A0_0 l0_0.length c0_0, .slice A0_1 l0_1.length c0_1, .slice A0_2 l0_2.length c0_2, .int .i64 a0_3, .int .i64 a0_4] 53 (0, 0)) BA0.out hb); have HS_ := Aside0.mk (Kd.S_below HS.out hb); have HG_ := Aside0.mk (Kd.S_below HG.out hb); clear hb hd; clear HB BA0 HS HG; have HB := HB_; have BA0 := BA0_; have HS := HS_; have HG := HG_; clear HB_ BA0_ HS_ HG_; clear hcBA00 hfBA00 hcBA01 hfBA01 hcBA02 hfBA02 hcBA03 hfBA03 hcBA04 hfBA04; have hcBA00 : w21.cell? ⟨ga0, 0, none⟩ = some (.slice A0_0 l0_0.length c0_0) := (blk_cell BA0.out 0).trans rfl; have hfBA00 := blk_frozen BA0.out 0; have hcBA01 : w21.cell? ⟨ga0, 1, none⟩ = some (.slice A0_1 l0_1.length c0_1) := (blk_cell BA0.out 1).trans rfl; have hfBA01 := blk_frozen BA0.out 1; have hcBA02 : w21.cell? ⟨ga0, 2, none⟩ = some (.slice A0_2 l0_2.length c0_2) := (blk_cell BA0.out 2).trans rfl; have hfBA02 := blk_frozen BA0.out 2; have hcBA03 : w21.cell? ⟨ga0, 3, none⟩ = some (.int .i64 a0_3) := (blk_cell BA0.out 3).trans rfl; have hfBA03 := blk_frozen BA0.out 3; have hcBA04 : w21.cell? ⟨ga0, 4, none⟩ = some (.int .i64 a0_4) := (blk_cell BA0.out 4).trans rfl; have hfBA04 := blk_frozen BA0.out 4))
   go_wp2_with (first | (go_at_call 26; (with_reducible refine (laws_toHead.calls k A0_0 c0_0 l0_0 A0_1 c0_1 l0_1 A0_2 c0_2 l0_2 a0_3 a0_4 x0_0 x0_1 x0_2 x0_3 x0_4 _ (Kd.C_below HR0_0.out HB.out) HC0_0.out (Kd.C_below HR0_1.out HB.out) HC0_1.out (Kd.C_below HR0_2.out HB.out) HC0_2.out BT0.out).mono ?_); rintro e w22 ⟨v0, v1, v2, rfl, ho0, ho1, ho2, hb⟩; have HX0_0 := Aside0.mk ho0; have HX0_1 := Aside0.mk ho1; have HX0_2 := Aside0.mk ho2; have HB_ := Aside0.mk (below_step HB.out hb); have BA0_ := Aside0.mk (blk_below (g := ga0) (o := .cells #[.slice A0_0 l0_0.length c0_0, .slice A0_1 l0_1.length c0_1, .slice A0_2 l0_2.length c0_2, .int .i64 a0_3, .int .i64 a0_4] 53 (0, 0)) BA0.out hb); have HS_ := Aside0.mk (Kd.S_below HS.out hb); have HG_ := Aside0.mk (Kd.S_below HG.out hb); clear hb ho0 ho1 ho2; clear HB BA0 HS HG; have HB := HB_; have BA0 := BA0_; have HS := HS_; have HG := HG_; clear HB_ BA0_ HS_ HG_; clear hcBA00 hfBA00 hcBA01 hfBA01 hcBA02 hfBA02 hcBA03 hfBA03 hcBA04 hfBA04; have hcBA00 : w22.cell? ⟨ga0, 0, none⟩ = some (.slice A0_0 l0_0.length c0_0) := (blk_cell BA0.out 0).trans rfl; have hfBA00 := blk_frozen BA0.out 0; have hcBA01 : w22.cell? ⟨ga0, 1, none⟩ = some (.slice A0_1 l0_1.length c0_1) := (blk_cell BA0.out 1).trans rfl; have hfBA01 := blk_frozen BA0.out 1; have hcBA02 : w22.cell? ⟨ga0, 2, none⟩ = some (.slice A0_2 l0_2.length c0_2) := (blk_cell BA0.out 2).trans rfl; have hfBA02 := blk_frozen BA0.out 2; have hcBA03 : w22.cell? ⟨ga0, 3, none⟩ = some (.int .i64 a0_3) := (blk_cell BA0.out 3).trans rfl; have hfBA03 := blk_frozen BA0.out 3; have hcBA04 : w22.cell? ⟨ga0, 4, none⟩ = some (.int .i64 a0_4) := (blk_cell BA0.out 4).trans rfl; have hfBA04 := blk_frozen BA0.out 4))
   obtain ⟨Ar0_0, cr0_0, er0_0⟩ := Kd.R_slice HX0_0.out
   subst er0_0
   obtain ⟨Ar0_1, cr0_1, er0_1⟩ := Kd.R_slice HX0_1.out
   subst er0_1
   obtain ⟨Ar0_2, cr0_2, er0_2⟩ := Kd.R_slice HX0_2.out
   subst er0_2
   go_wp2_with (first | (go_at_call 37; (with_reducible refine (laws_toInt64S.calls k A1 c1 l1 x1 _ (Kd.C_below HR1.out HB.out) HC1.out BT1.out).mono ?_); rintro e w23 ⟨v0, rfl, ho0, hb⟩; have HX1 := Aside0.mk ho0; have HB_ := Aside0.mk (below_step HB.out hb); have BA0_ := Aside0.mk (blk_below (g := ga0) (o := .cells #[.slice A0_0 l0_0.length c0_0, .slice A0_1 l0_1.length c0_1, .slice A0_2 l0_2.length c0_2, .int .i64 a0_3, .int .i64 a0_4] 53 (0, 0)) BA0.out hb); have HS_ := Aside0.mk (Kd.S_below HS.out hb); have HG_ := Aside0.mk (Kd.S_below HG.out hb); have HX0_0_ := Aside0.mk (Kd.R_below HX0_0.out hb); have HX0_1_ := Aside0.mk (Kd.R_below HX0_1.out hb); have HX0_2_ := Aside0.mk (Kd.R_below HX0_2.out hb); clear hb ho0; clear HB BA0 HS HG HX0_0 HX0_1 HX0_2; have HB := HB_; have BA0 := BA0_; have HS := HS_; have HG := HG_; have HX0_0 := HX0_0_; have HX0_1 := HX0_1_; have HX0_2 := HX0_2_; clear HB_ BA0_ HS_ HG_ HX0_0_ HX0_1_ HX0_2_; clear hcBA00 hfBA00 hcBA01 hfBA01 hcBA02 hfBA02 hcBA03 hfBA03 hcBA04 hfBA04; have hcBA00 : w23.cell? ⟨ga0, 0, none⟩ = some (.slice A0_0 l0_0.length c0_0) := (blk_cell BA0.out 0).trans rfl; have hfBA00 := blk_frozen BA0.out 0; have hcBA01 : w23.cell? ⟨ga0, 1, none⟩ = some (.slice A0_1 l0_1.length c0_1) := (blk_cell BA0.out 1).trans rfl; have hfBA01 := blk_frozen BA0.out 1; have hcBA02 : w23.cell? ⟨ga0, 2, none⟩ = some (.slice A0_2 l0_2.length c0_2) := (blk_cell BA0.out 2).trans rfl; have hfBA02 := blk_frozen BA0.out 2; have hcBA03 : w23.cell? ⟨ga0, 3, none⟩ = some (.int .i64 a0_3) := (blk_cell BA0.out 3).trans rfl; have hfBA03 := blk_frozen BA0.out 3; have hcBA04 : w23.cell? ⟨ga0, 4, none⟩ = some (.int .i64 a0_4) := (blk_cell BA0.out 4).trans rfl; have hfBA04 := blk_frozen BA0.out 4))
   obtain ⟨Ar1, cr1, er1⟩ := Kd.R_slice HX1.out
   subst er1
   go_wp2_with (first | (go_at_call 20; (with_reducible refine (impl_PlanFor.calls k Ar0_0 cr0_0 x0_0 Ar0_1 cr0_1 x0_1 Ar0_2 cr0_2 x0_2 x0_3 x0_4 Ar1 cr1 x1 g0 g1 _ (Kd.R_reads' HX0_0.out).2.2 (Kd.R_reads' HX0_0.out).2.1 (Kd.R_reads' HX0_1.out).2.2 (Kd.R_reads' HX0_1.out).2.1 (Kd.R_reads' HX0_2.out).2.2 (Kd.R_reads' HX0_2.out).2.1 (Kd.R_reads' HX1.out).2.2 (Kd.R_reads' HX1.out).2.1 BG.out).mono ?_); rintro e w24 ⟨v0, rfl, ho, hb⟩; have HO := Aside0.mk ho; have HB_ := Aside0.mk (below_step HB.out hb); have BA0_ := Aside0.mk (blk_below (g := ga0) (o := .cells #[.slice A0_0 l0_0.length c0_0, .slice A0_1 l0_1.length c0_1, .slice A0_2 l0_2.length c0_2, .int .i64 a0_3, .int .i64 a0_4] 53 (0, 0)) BA0.out hb); have HS_ := Aside0.mk (Kd.S_below HS.out hb); have HG_ := Aside0.mk (Kd.S_below HG.out hb); clear hb ho HX0_0 HX0_1 HX0_2 HX1; clear HB BA0 HS HG; have HB := HB_; have BA0 := BA0_; have HS := HS_; have HG := HG_; clear HB_ BA0_ HS_ HG_; clear hcBA00 hfBA00 hcBA01 hfBA01 hcBA02 hfBA02 hcBA03 hfBA03 hcBA04 hfBA04; have hcBA00 : w24.cell? ⟨ga0, 0, none⟩ = some (.slice A0_0 l0_0.length c0_0) := (blk_cell BA0.out 0).trans rfl; have hfBA00 := blk_frozen BA0.out 0; have hcBA01 : w24.cell? ⟨ga0, 1, none⟩ = some (.slice A0_1 l0_1.length c0_1) := (blk_cell BA0.out 1).trans rfl; have hfBA01 := blk_frozen BA0.out 1; have hcBA02 : w24.cell? ⟨ga0, 2, none⟩ = some (.slice A0_2 l0_2.length c0_2) := (blk_cell BA0.out 2).trans rfl; have hfBA02 := blk_frozen BA0.out 2; have hcBA03 : w24.cell? ⟨ga0, 3, none⟩ = some (.int .i64 a0_3) := (blk_cell BA0.out 3).trans rfl; have hfBA03 := blk_frozen BA0.out 3; have hcBA04 : w24.cell? ⟨ga0, 4, none⟩ = some (.int .i64 a0_4) := (blk_cell BA0.out 4).trans rfl; have hfBA04 := blk_frozen BA0.out 4))
   obtain ⟨Ah, ch, eh⟩ := Kd.S_slice HO.out
   subst eh
   go_wp2_with (first | (go_at_call 31; (with_reducible refine (laws_eqStopS.calls k Ah ch g0 As cs s0 true _ (Kd.S_reads' HO.out).2.2 (Kd.S_reads' HO.out).2.1 (Kd.S_reads' HS.out).2.2 (Kd.S_reads' HS.out).2.1 BE.out).mono ?_); rintro e w25 ⟨rfl, hb⟩; have HB_ := Aside0.mk (below_step HB.out hb); have BA0_ := Aside0.mk (blk_below (g := ga0) (o := .cells #[.slice A0_0 l0_0.length c0_0, .slice A0_1 l0_1.length c0_1, .slice A0_2 l0_2.length c0_2, .int .i64 a0_3, .int .i64 a0_4] 53 (0, 0)) BA0.out hb); have HS_ := Aside0.mk (Kd.S_below HS.out hb); have HG_ := Aside0.mk (Kd.S_below HG.out hb); clear hb HO; clear HB BA0 HS HG; have HB := HB_; have BA0 := BA0_; have HS := HS_; have HG := HG_; clear HB_ BA0_ HS_ HG_; clear hcBA00 hfBA00 hcBA01 hfBA01 hcBA02 hfBA02 hcBA03 hfBA03 hcBA04 hfBA04; have hcBA00 : w25.cell? ⟨ga0, 0, none⟩ = some (.slice A0_0 l0_0.length c0_0) := (blk_cell BA0.out 0).trans rfl; have hfBA00 := blk_frozen BA0.out 0; have hcBA01 : w25.cell? ⟨ga0, 1, none⟩ = some (.slice A0_1 l0_1.length c0_1) := (blk_cell BA0.out 1).trans rfl; have hfBA01 := blk_frozen BA0.out 1; have hcBA02 : w25.cell? ⟨ga0, 2, none⟩ = some (.slice A0_2 l0_2.length c0_2) := (blk_cell BA0.out 2).trans rfl; have hfBA02 := blk_frozen BA0.out 2; have hcBA03 : w25.cell? ⟨ga0, 3, none⟩ = some (.int .i64 a0_3) := (blk_cell BA0.out 3).trans rfl; have hfBA03 := blk_frozen BA0.out 3; have hcBA04 : w25.cell? ⟨ga0, 4, none⟩ = some (.int .i64 a0_4) := (blk_cell BA0.out 4).trans rfl; have hfBA04 := blk_frozen BA0.out 4))
   go_wp2_with (first | (go_at_call 38; (with_reducible refine (laws_heldStopS.calls k Ag cg lk 1 th _ (Kd.S_reads' HG.out).2.2 (by have z_ := (Kd.S_reads' HG.out).2.1; rw [HL.out] at z_; exact z_) BH.out).mono ?_); rintro e w26 ⟨rfl, hd⟩; have hb := DB.out hd; have HB_ := Aside0.mk (below_step HB.out hb); have BA0_ := Aside0.mk (blk_below (g := ga0) (o := .cells #[.slice A0_0 l0_0.length c0_0, .slice A0_1 l0_1.length c0_1, .slice A0_2 l0_2.length c0_2, .int .i64 a0_3, .int .i64 a0_4] 53 (0, 0)) BA0.out hb); have HS_ := Aside0.mk (Kd.S_below HS.out hb); have HG_ := Aside0.mk (Kd.S_below HG.out hb); clear hb hd; clear HB BA0 HS HG; have HB := HB_; have BA0 := BA0_; have HS := HS_; have HG := HG_; clear HB_ BA0_ HS_ HG_; clear hcBA00 hfBA00 hcBA01 hfBA01 hcBA02 hfBA02 hcBA03 hfBA03 hcBA04 hfBA04; have hcBA00 : w26.cell? ⟨ga0, 0, none⟩ = some (.slice A0_0 l0_0.length c0_0) := (blk_cell BA0.out 0).trans rfl; have hfBA00 := blk_frozen BA0.out 0; have hcBA01 : w26.cell? ⟨ga0, 1, none⟩ = some (.slice A0_1 l0_1.length c0_1) := (blk_cell BA0.out 1).trans rfl; have hfBA01 := blk_frozen BA0.out 1; have hcBA02 : w26.cell? ⟨ga0, 2, none⟩ = some (.slice A0_2 l0_2.length c0_2) := (blk_cell BA0.out 2).trans rfl; have hfBA02 := blk_frozen BA0.out 2; have hcBA03 : w26.cell? ⟨ga0, 3, none⟩ = some (.int .i64 a0_3) := (blk_cell BA0.out 3).trans rfl; have hfBA03 := blk_frozen BA0.out 3; have hcBA04 : w26.cell? ⟨ga0, 4, none⟩ = some (.int .i64 a0_4) := (blk_cell BA0.out 4).trans rfl; have hfBA04 := blk_frozen BA0.out 4))
   go_ret
   exact ⟨by first | rfl | (simp; done) | (simp [*]; done) | (simp [Int.tdiv_eq_ediv_of_nonneg, *]; done), by repeat (first | (with_reducible first | exact HB.out | apply below_alloc | apply pw_below_drewN | apply below_drew1) | exact HB.out)⟩

def laws_FnExactPlanFor.Pure : Prop := ∀ (l0_0 : List (S113)) (l0_1 : List Int) (l0_2 : List Int) (a0_3 : Int) (a0_4 : Int) (l1 : List Int), Opn.WfL W113 l0_0 → Opn.WfL (fun a_ => (Lit.int .i64 a_).wf = true) l0_1 → Opn.WfL (fun a_ => (Lit.int .i64 a_).wf = true) l0_2 → (Lit.int .i64 a0_3).wf = true → (Lit.int .i64 a0_4).wf = true → Opn.WfL (fun a_ => (Lit.int .i64 a_).wf = true) l1 → ∃ k, laws_FnExactPlanFor.f k l0_0 l0_1 l0_2 a0_3 a0_4 l1 = some true
theorem laws_FnExactPlanFor.walk (P : laws_FnExactPlanFor.Pure) (A0_0 : Option Addr) (c0_0 : Nat) (l0_0 : List (S113)) (A0_1 : Option Addr) (c0_1 : Nat) (l0_1 : List Int) (A0_2 : Option Addr) (c0_2 : Nat) (l0_2 : List Int) (a0_3 : Int) (a0_4 : Int) (A1 : Option Addr) (c1 : Nat) (l1 : List Int) (w : World) (hr0_0 : Kd.C k113 w A0_0 l0_0.length l0_0) (hc0_0 : l0_0.length ≤ c0_0) (hr0_1 : Kd.C (Kd.int .i64) w A0_1 l0_1.length l0_1) (hc0_1 : l0_1.length ≤ c0_1) (hr0_2 : Kd.C (Kd.int .i64) w A0_2 l0_2.length l0_2) (hc0_2 : l0_2.length ≤ c0_2) (hr1 : Kd.C (Kd.int .i64) w A1 l1.length l1) (hc1 : l1.length ≤ c1) (w0_0 : Opn.WfL W113 l0_0) (w0_1 : Opn.WfL (fun a_ => (Lit.int .i64 a_).wf = true) l0_1) (w0_2 : Opn.WfL (fun a_ => (Lit.int .i64 a_).wf = true) l0_2) (w0_3 : (Lit.int .i64 a0_3).wf = true) (w0_4 : (Lit.int .i64 a0_4).wf = true) (w1 : Opn.WfL (fun a_ => (Lit.int .i64 a_).wf = true) l1) :
  Calls Try.prog 7 #[.agg #[.slice A0_0 l0_0.length c0_0, .slice A0_1 l0_1.length c0_1, .slice A0_2 l0_2.length c0_2, .int .i64 a0_3, .int .i64 a0_4], .slice A1 l1.length c1] w fun e w' => e = .returned (.bool true) ∧ Below w.heap.size w w' := by
 obtain ⟨k, h⟩ := P l0_0 l0_1 l0_2 a0_3 a0_4 l1 w0_0 w0_1 w0_2 w0_3 w0_4 w1
 refine (laws_FnExactPlanFor.calls k A0_0 c0_0 l0_0 A0_1 c0_1 l0_1 A0_2 c0_2 l0_2 a0_3 a0_4 A1 c1 l1 true w hr0_0 hc0_0 hr0_1 hc0_1 hr0_2 hc0_2 hr1 hc1 h).mono ?_
 rintro e w' ⟨rfl, hd⟩
 exact ⟨rfl, hd⟩

end Go.Proofs.Ytfcadpkhmkjibaa.P
/- Plain facts on numbers and lists that every loop's lemma uses. -/
namespace Go.Proofs.Ytfcadpkhmkjibaa.P
open Go.RowKit Go.Proofs.Ytfcadpkhmkjibaa.P Go.Proofs.YtfcadpkhmkjibaaW.PrintWords Go.Proofs.YtfcadpkhmkjibaaW.PrintLast Go.Proofs.YtfcadpkhmkjibaaW.PrintMore
set_option linter.unusedVariables false
set_option linter.unusedSimpArgs false
theorem w64 (x : Int) (h1 : -9223372036854775808 ≤ x) (h2 : x ≤ 9223372036854775807) : wrap64 x = x := by unfold wrap64; omega
theorem w64s (i : Nat) (h : i < 9223372036854775807) : wrap64 ((i : Int) + 1) = ((i + 1 : Nat) : Int) := by unfold wrap64; omega
theorem rd_at (l : List Int) (i : Nat) (h : i < l.length) : rd l (i : Int) = l[i] := by
  unfold rd
  rw [Int.toNat_natCast, List.getD_eq_getElem?_getD, List.getElem?_eq_getElem h]
  rfl
theorem drop_at (l : List Int) (i : Nat) (h : i < l.length) : l.drop i = rd l (i : Int) :: l.drop (i + 1) := by
  rw [rd_at l i h, List.drop_eq_getElem_cons h]
theorem fill_step {α : Type} (l acc : List α) (i : Nat) (x : α) (hi : i < l.length) (hl : acc.length = l.length) (h : acc.take i = l.take i) (hx : l[i] = x) : (acc.set i x).take (i + 1) = l.take (i + 1) := by
  subst hx
  have hi2 : i < (acc.set i l[i]).length := by rw [List.length_set]; omega
  rw [List.take_succ_eq_append_getElem hi2, List.take_succ_eq_append_getElem hi, List.getElem_set_self, List.take_set_of_le (Nat.le_refl i), h]
def iota (m : Int) : Nat → List Int
  | 0 => []
  | n + 1 => m :: iota (m + 1) n
theorem iota_length (m : Int) (n : Nat) : (iota m n).length = n := by
  induction n generalizing m with
  | zero => rfl
  | succ n ih => simp [iota, ih]
theorem iota_get (m : Int) (n i : Nat) (h : i < (iota m n).length) : (iota m n)[i] = m + i := by
  induction n generalizing m i with
  | zero => rw [iota_length] at h; omega
  | succ n ih =>
    cases i with
    | zero => simp [iota]
    | succ i =>
      have h2 : i < (iota (m + 1) n).length := by rw [iota_length] at h ⊢; omega
      simp only [iota, List.getElem_cons_succ]
      rw [ih (m + 1) i h2]
      omega
theorem bind_some_ {α β : Type} (a : α) (f : α → Option β) : (some a).bind f = f a := rfl
theorem ite_tt (b r : Bool) : (if b = true then some r else some false) = some (b && r) := by cases b <;> rfl
theorem ite_ff (p : Prop) [Decidable p] (r : Bool) : (if p then some false else some r) = some (!decide p && r) := by by_cases h : p <;> simp [h]
theorem ite_pp (p : Prop) [Decidable p] (r : Bool) : (if p then some r else some false) = some (decide p && r) := by by_cases h : p <;> simp [h]
theorem not_ge_dec (a b : Int) : (!decide (a ≥ b)) = decide (a < b) := by by_cases h : a < b <;> simp [h] <;> omega

end Go.Proofs.Ytfcadpkhmkjibaa.P
/- Two lists of numbers are compared. -/
namespace Go.Proofs.Ytfcadpkhmkjibaa.P
open Go.RowKit Go.Proofs.Ytfcadpkhmkjibaa.P Go.Proofs.YtfcadpkhmkjibaaW.PrintWords Go.Proofs.YtfcadpkhmkjibaaW.PrintLast Go.Proofs.YtfcadpkhmkjibaaW.PrintMore
set_option linter.unusedVariables false
set_option linter.unusedSimpArgs false
theorem eqInt_loop (a b : List Int) (hl : a.length = b.length) (hb : a.length ≤ 9223372036854775807) : ∀ (d k i : Nat), i + d = a.length → d < k → laws_eqInt64S.l0 k a b i = some (decide (a.drop i = b.drop i)) := by
  intro d
  induction d with
  | zero =>
    intro k i hi hk
    obtain ⟨k, rfl⟩ : ∃ m, k = m + 1 := ⟨k - 1, by omega⟩
    simp only [laws_eqInt64S.l0]
    rw [if_neg (by omega), List.drop_of_length_le (by omega), List.drop_of_length_le (by omega)]
    simp
  | succ d ih =>
    intro k i hi hk
    obtain ⟨k, rfl⟩ : ∃ m, k = m + 1 := ⟨k - 1, by omega⟩
    simp only [laws_eqInt64S.l0]
    rw [if_pos (by omega), if_pos (by omega), if_pos (by omega), w64s i (by omega), ih k (i + 1) (by omega) (by omega), drop_at a i (by omega), drop_at b i (by omega)]
    by_cases h : rd a i = rd b i
    · rw [if_pos h]; simp [h]
    · rw [if_neg h]; simp [h]
theorem eqInt_is (k : Nat) (a b : List Int) (hb : a.length ≤ 9223372036854775807) (hk : a.length < k) : laws_eqInt64S.f k a b = some (decide (a = b)) := by
  unfold laws_eqInt64S.f
  by_cases h : a.length = b.length
  · rw [if_pos (by omega)]
    have := eqInt_loop a b h hb a.length k 0 (by omega) hk
    simpa using this
  · rw [if_neg (by omega)]
    have : a ≠ b := fun e => h (by rw [e])
    simp [this]

end Go.Proofs.Ytfcadpkhmkjibaa.P
/- A list that was marked still holds its marks. -/
namespace Go.Proofs.Ytfcadpkhmkjibaa.P
open Go.RowKit Go.Proofs.Ytfcadpkhmkjibaa.P Go.Proofs.YtfcadpkhmkjibaaW.PrintWords Go.Proofs.YtfcadpkhmkjibaaW.PrintLast Go.Proofs.YtfcadpkhmkjibaaW.PrintMore
set_option linter.unusedVariables false
set_option linter.unusedSimpArgs false
theorem heldInt_loop (n : Nat) (hb : n ≤ 4000000000000000000) (m : Int) (hm : 0 ≤ m ∧ m ≤ 4000000000000000000) : ∀ (d k i : Nat), i + d = n → d < k → laws_heldInt64S.l0 k (iota m n) (m + i) i = some (m + n) := by
  intro d
  induction d with
  | zero =>
    intro k i hi hk
    obtain ⟨k, rfl⟩ : ∃ m, k = m + 1 := ⟨k - 1, by omega⟩
    simp only [laws_heldInt64S.l0]
    rw [if_neg (by rw [iota_length]; omega), show i = n by omega]
  | succ d ih =>
    intro k i hi hk
    obtain ⟨k, rfl⟩ : ∃ m, k = m + 1 := ⟨k - 1, by omega⟩
    simp only [laws_heldInt64S.l0]
    have hr : rd (iota m n) i = m + i := by rw [rd_at _ i (by rw [iota_length]; omega), iota_get]
    rw [if_pos (by rw [iota_length]; omega), if_pos (by omega), if_pos hr, w64s i (by omega), w64 (m + i + 1) (by omega) (by omega), show m + (i : Int) + 1 = m + ((i + 1 : Nat) : Int) by omega]
    exact ih k (i + 1) (by omega) (by omega)
theorem heldInt_is (k : Nat) (n : Nat) (m : Int) (hm : 0 ≤ m ∧ m ≤ 4000000000000000000) (hb : n ≤ 4000000000000000000) (hk : n < k) : laws_heldInt64S.f k (iota m n) m = some (m + n) := by
  unfold laws_heldInt64S.f
  have := heldInt_loop n hb m hm n k 0 (by omega) hk
  simpa using this

end Go.Proofs.Ytfcadpkhmkjibaa.P
/- A list is marked with rising numbers, and still holds them. -/
namespace Go.Proofs.Ytfcadpkhmkjibaa.P
open Go.RowKit Go.Proofs.Ytfcadpkhmkjibaa.P Go.Proofs.YtfcadpkhmkjibaaW.PrintWords Go.Proofs.YtfcadpkhmkjibaaW.PrintLast Go.Proofs.YtfcadpkhmkjibaaW.PrintMore
set_option linter.unusedVariables false
set_option linter.unusedSimpArgs false
theorem markInt_loop (n : Nat) (hb : n ≤ 4000000000000000000) (m : Int) (hm : 0 ≤ m ∧ m ≤ 4000000000000000000) : ∀ (d k i : Nat) (l : List Int), i + d = n → d < k → l.length = n → l.take i = (iota m n).take i → laws_markInt64S.l0 k l (m + i) i = some (m + n, iota m n) := by
  intro d
  induction d with
  | zero =>
    intro k i l hi hk hl ht
    obtain ⟨k, rfl⟩ : ∃ m, k = m + 1 := ⟨k - 1, by omega⟩
    simp only [laws_markInt64S.l0]
    rw [if_neg (by omega)]
    rw [List.take_of_length_le (by omega), List.take_of_length_le (by rw [iota_length]; omega)] at ht
    rw [ht, show i = n by omega]
  | succ d ih =>
    intro k i l hi hk hl ht
    obtain ⟨k, rfl⟩ : ∃ m, k = m + 1 := ⟨k - 1, by omega⟩
    simp only [laws_markInt64S.l0]
    rw [if_pos (by omega), if_pos (by omega), w64s i (by omega), Int.toNat_natCast, w64 (m + i + 1) (by omega) (by omega), show m + (i : Int) + 1 = m + ((i + 1 : Nat) : Int) by omega]
    exact ih k (i + 1) _ (by omega) (by omega) (by rw [List.length_set]; exact hl) (fill_step (iota m n) l i _ (by rw [iota_length]; omega) (by rw [iota_length]; exact hl) ht (iota_get m n i (by rw [iota_length]; omega)))
theorem markInt_is (k : Nat) (l : List Int) (m : Int) (hm : 0 ≤ m ∧ m ≤ 4000000000000000000) (hb : l.length ≤ 4000000000000000000) (hk : l.length < k) : laws_markInt64S.f k l m = some (m + l.length, iota m l.length) := by
  unfold laws_markInt64S.f
  have := markInt_loop l.length hb m hm l.length k 0 l (by omega) hk rfl (by simp)
  simpa using this

end Go.Proofs.Ytfcadpkhmkjibaa.P
/- A list of numbers is copied. -/
namespace Go.Proofs.Ytfcadpkhmkjibaa.P
open Go.RowKit Go.Proofs.Ytfcadpkhmkjibaa.P Go.Proofs.YtfcadpkhmkjibaaW.PrintWords Go.Proofs.YtfcadpkhmkjibaaW.PrintLast Go.Proofs.YtfcadpkhmkjibaaW.PrintMore
set_option linter.unusedVariables false
set_option linter.unusedSimpArgs false
theorem toInt_loop (l : List Int) (hb : l.length ≤ 9223372036854775807) : ∀ (d k i : Nat) (acc : List Int), i + d = l.length → d < k → acc.length = l.length → acc.take i = l.take i → laws_toInt64S.l0 k l acc i = some l := by
  intro d
  induction d with
  | zero =>
    intro k i acc hi hk ha ht
    obtain ⟨k, rfl⟩ : ∃ m, k = m + 1 := ⟨k - 1, by omega⟩
    simp only [laws_toInt64S.l0]
    rw [if_neg (by omega)]
    rw [List.take_of_length_le (by omega), List.take_of_length_le (by omega)] at ht
    rw [ht]
  | succ d ih =>
    intro k i acc hi hk ha ht
    obtain ⟨k, rfl⟩ : ∃ m, k = m + 1 := ⟨k - 1, by omega⟩
    simp only [laws_toInt64S.l0]
    rw [if_pos (by omega), if_pos (by omega), if_pos (by omega), w64s i (by omega), Int.toNat_natCast]
    exact ih k (i + 1) _ (by omega) (by omega) (by rw [List.length_set]; exact ha) (fill_step l acc i _ (by omega) ha ht (rd_at l i (by omega)).symm)
theorem toInt_is (k : Nat) (l : List Int) (hb : l.length ≤ 35184372088832) (hk : l.length < k) : laws_toInt64S.f k l = some l := by
  unfold laws_toInt64S.f
  rw [if_pos (by omega), if_pos (by omega)]
  exact toInt_loop l (by omega) l.length k 0 _ (by omega) hk (by simp) (by simp)

end Go.Proofs.Ytfcadpkhmkjibaa.P
/- A list of the law's own structs that hold lists is copied into the program's, measured, and equal to itself. -/
namespace Go.Proofs.Ytfcadpkhmkjibaa.P
open Go.RowKit Go.Proofs.Ytfcadpkhmkjibaa.P Go.Proofs.YtfcadpkhmkjibaaW.PrintWords Go.Proofs.YtfcadpkhmkjibaaW.PrintLast Go.Proofs.YtfcadpkhmkjibaaW.PrintMore
set_option linter.unusedVariables false
set_option linter.unusedSimpArgs false
theorem rdStop_at (l : List S49) (i : Nat) (h : i < l.length) : rd_T49 l (i : Int) = l[i] := by
  unfold rd_T49
  rw [Int.toNat_natCast, List.getD_eq_getElem?_getD, List.getElem?_eq_getElem h]
  rfl
def shortS (l : List S49) : Prop := l.length ≤ 1048576 ∧ ∀ s ∈ l, s.f1.length ≤ 1048576
theorem shortS_at {l : List S49} (h : shortS l) (i : Nat) (hi : i < l.length) : (rd_T49 l (i : Int)).f1.length ≤ 1048576 := by
  rw [rdStop_at l i hi]
  exact h.2 _ (List.getElem_mem hi)
theorem eqStopS_loop (a : List S49) (hs : shortS a) : ∀ (d k i : Nat), i + d = a.length → d + 1048576 < k → laws_eqStopS.l0 k a a i = some true := by
  intro d
  have hb := hs.1
  induction d with
  | zero =>
    intro k i hi hk
    obtain ⟨k, rfl⟩ : ∃ m, k = m + 1 := ⟨k - 1, by omega⟩
    simp only [laws_eqStopS.l0]
    rw [if_neg (by omega)]
  | succ d ih =>
    intro k i hi hk
    obtain ⟨k, rfl⟩ : ∃ m, k = m + 1 := ⟨k - 1, by omega⟩
    have h1 := shortS_at hs i (by omega)
    simp only [laws_eqStopS.l0, laws_eqStop.f, if_true]
    rw [if_pos (by omega), if_pos (by omega), if_pos (by omega), eqInt_is k _ _ (by omega) (by omega), bind_some_, if_pos (decide_eq_true rfl), bind_some_, if_pos rfl, w64s i (by omega)]
    exact ih k (i + 1) (by omega) (by omega)
theorem eqStopS_refl (k : Nat) (a : List S49) (hs : shortS a) (hk : a.length + 1048576 < k) : laws_eqStopS.f k a a = some true := by
  unfold laws_eqStopS.f
  rw [if_pos rfl]
  exact eqStopS_loop a hs a.length k 0 (by omega) hk

end Go.Proofs.Ytfcadpkhmkjibaa.P
/- A plan is marked with rising numbers. -/
namespace Go.Proofs.Ytfcadpkhmkjibaa.P
open Go.RowKit Go.Proofs.Ytfcadpkhmkjibaa.P Go.Proofs.YtfcadpkhmkjibaaW.PrintWords Go.Proofs.YtfcadpkhmkjibaaW.PrintLast Go.Proofs.YtfcadpkhmkjibaaW.PrintMore
set_option linter.unusedVariables false
set_option linter.unusedSimpArgs false
def iotaStop : Int → List S49 → List S49
  | _, [] => []
  | m, r :: rs => ⟨m, iota (m + 1) r.f1.length⟩ :: iotaStop (m + 1 + r.f1.length) rs
def cntStop : List S49 → Nat
  | [] => 0
  | r :: rs => 1 + r.f1.length + cntStop rs
theorem cntStop_le : ∀ rs : List S49, (∀ s ∈ rs, s.f1.length ≤ 1048576) → cntStop rs ≤ 1048577 * rs.length
  | [], _ => by simp [cntStop]
  | r :: rs, h => by
    have h1 := h r (by simp)
    have h2 := cntStop_le rs (fun s hs => h s (by simp [hs]))
    simp only [cntStop, List.length_cons]
    omega
theorem markStop_loop : ∀ (todo : List S49) (k : Nat) (pre : List S49) (m : Int), (pre.length + todo.length : Int) ≤ 4000000000000000000 → (∀ s ∈ todo, s.f1.length ≤ 1048576) → 1048577 + todo.length < k → 0 ≤ m → m + cntStop todo ≤ 3000000000000000000 → laws_markStopS.l0 k (pre ++ todo) m pre.length = some (m + cntStop todo, pre ++ iotaStop m todo) := by
  intro todo
  induction todo with
  | nil =>
    intro k pre m h1 hr h2 h3 h4
    obtain ⟨k, rfl⟩ : ∃ m, k = m + 1 := ⟨k - 1, by omega⟩
    simp only [laws_markStopS.l0]
    rw [if_neg (by simp)]
    simp [cntStop, iotaStop]
  | cons r rs ih =>
    intro k pre m h1 hr h2 h3 h4
    obtain ⟨k, rfl⟩ : ∃ m, k = m + 1 := ⟨k - 1, by omega⟩
    have hl := hr r (by simp)
    simp only [cntStop, List.length_cons] at h1 h2 h4
    have e1 : rd_T49 (pre ++ r :: rs) (pre.length : Int) = r := by
      unfold rd_T49
      rw [Int.toNat_natCast, List.getD_eq_getElem?_getD, List.getElem?_append_right (Nat.le_refl _), Nat.sub_self]
      rfl
    have e2 : ∀ v : S49, (pre ++ r :: rs).set ((pre.length : Int)).toNat v = (pre ++ [v]) ++ rs := by
      intro v
      rw [Int.toNat_natCast, List.set_append_right _ _ (Nat.le_refl _), Nat.sub_self]
      simp
    have e3 : pre.length + 1 = (pre ++ [(⟨m, iota (m + 1) r.f1.length⟩ : S49)]).length := by simp
    simp only [laws_markStopS.l0]
    rw [if_pos (by simp; omega), if_pos (by omega), e1, w64 (m + 1) (by omega) (by omega), markInt_is k r.f1 (m + 1) (by omega) (by omega) (by omega), bind_some_, e2, w64s pre.length (by omega), e3, ih k _ (m + 1 + r.f1.length) (by simp; omega) (fun s hs => hr s (by simp [hs])) (by omega) (by omega) (by omega)]
    simp only [cntStop, iotaStop, List.append_assoc, List.singleton_append, Int.natCast_add, Int.add_assoc]
    rfl
theorem markStop_is (k : Nat) (rs : List S49) (m : Int) (hp : shortS rs) (hm : 0 ≤ m ∧ m ≤ 1000000000) (hk : 3000000 < k) : laws_markStopS.f k rs m = some (m + (cntStop rs : Int), iotaStop m rs) := by
  have h1 := hp.1
  have h2 := cntStop_le rs hp.2
  have h3 : 1048577 * rs.length ≤ 1048577 * 1048576 := Nat.mul_le_mul (Nat.le_refl _) h1
  have e1 := markStop_loop rs k [] m (by simp; omega) hp.2 (by omega) (by omega) (by omega)
  exact e1

end Go.Proofs.Ytfcadpkhmkjibaa.P
/- A plan that was marked still holds its marks. -/
namespace Go.Proofs.Ytfcadpkhmkjibaa.P
open Go.RowKit Go.Proofs.Ytfcadpkhmkjibaa.P Go.Proofs.YtfcadpkhmkjibaaW.PrintWords Go.Proofs.YtfcadpkhmkjibaaW.PrintLast Go.Proofs.YtfcadpkhmkjibaaW.PrintMore
set_option linter.unusedVariables false
set_option linter.unusedSimpArgs false
theorem heldStop_loop : ∀ (todo : List S49) (k : Nat) (pre : List S49) (m : Int), (pre.length + todo.length : Int) ≤ 4000000000000000000 → (∀ s ∈ todo, s.f1.length ≤ 1048576) → 1048577 + todo.length < k → 0 ≤ m → m + cntStop todo ≤ 3000000000000000000 → laws_heldStopS.l0 k (pre ++ iotaStop m todo) m pre.length = some (m + cntStop todo) := by
  intro todo
  induction todo with
  | nil =>
    intro k pre m h1 hr h2 h3 h4
    obtain ⟨k, rfl⟩ : ∃ m, k = m + 1 := ⟨k - 1, by omega⟩
    simp only [laws_heldStopS.l0]
    rw [if_neg (by simp [iotaStop])]
    simp [cntStop]
  | cons r rs ih =>
    intro k pre m h1 hr h2 h3 h4
    obtain ⟨k, rfl⟩ : ∃ m, k = m + 1 := ⟨k - 1, by omega⟩
    have hl := hr r (by simp)
    simp only [cntStop, List.length_cons] at h1 h2 h4
    have e1 : rd_T49 (pre ++ iotaStop m (r :: rs)) (pre.length : Int) = ⟨m, iota (m + 1) r.f1.length⟩ := by
      unfold rd_T49
      rw [Int.toNat_natCast, List.getD_eq_getElem?_getD, List.getElem?_append_right (Nat.le_refl _), Nat.sub_self]
      rfl
    have e2 : pre ++ iotaStop m (r :: rs) = (pre ++ [(⟨m, iota (m + 1) r.f1.length⟩ : S49)]) ++ iotaStop (m + 1 + r.f1.length) rs := by simp [iotaStop]
    have e3 : pre.length + 1 = (pre ++ [(⟨m, iota (m + 1) r.f1.length⟩ : S49)]).length := by simp
    simp only [laws_heldStopS.l0]
    rw [if_pos (by simp [iotaStop]; omega), if_pos (by omega), e1, if_pos rfl, w64 (m + 1) (by omega) (by omega)]
    try dsimp only
    rw [heldInt_is k r.f1.length (m + 1) (by omega) (by omega) (by omega), bind_some_, if_neg (by omega), w64s pre.length (by omega), e3, e2, ih k _ (m + 1 + r.f1.length) (by simp; omega) (fun s hs => hr s (by simp [hs])) (by omega) (by omega) (by omega)]
    simp only [cntStop, Int.natCast_add, Int.add_assoc]
    rfl
theorem heldStop_is (k : Nat) (rs : List S49) (m : Int) (hp : shortS rs) (hm : 0 ≤ m ∧ m ≤ 1000000000) (hk : 3000000 < k) : laws_heldStopS.f k (iotaStop m rs) m = some (m + (cntStop rs : Int)) := by
  have h1 := hp.1
  have h2 := cntStop_le rs hp.2
  have h3 : 1048577 * rs.length ≤ 1048577 * 1048576 := Nat.mul_le_mul (Nat.le_refl _) h1
  have e1 := heldStop_loop rs k [] m (by simp; omega) hp.2 (by omega) (by omega) (by omega)
  exact e1

end Go.Proofs.Ytfcadpkhmkjibaa.P
/- A test at each of some numbers that follow one another. -/
namespace Go.Proofs.Ytfcadpkhmkjibaa.P
open Go.RowKit Go.Proofs.Ytfcadpkhmkjibaa.P Go.Proofs.YtfcadpkhmkjibaaW.PrintWords Go.Proofs.YtfcadpkhmkjibaaW.PrintLast Go.Proofs.YtfcadpkhmkjibaaW.PrintMore
set_option linter.unusedVariables false
set_option linter.unusedSimpArgs false
def upTo (p : Nat → Bool) : Nat → Nat → Bool
  | 0, _ => true
  | d + 1, i => p i && upTo p d (i + 1)
theorem upTo_iff (p : Nat → Bool) : ∀ (d i : Nat), upTo p d i = true ↔ ∀ j, i ≤ j → j < i + d → p j = true := by
  intro d
  induction d with
  | zero => intro i; simp [upTo]; intro j h1 h2; omega
  | succ d ih =>
    intro i
    simp only [upTo, Bool.and_eq_true, ih]
    constructor
    · intro ⟨h0, h⟩ j h1 h2
      by_cases e : i = j
      · rw [← e]; exact h0
      · exact h j (by omega) (by omega)
    · intro h
      exact ⟨h i (Nat.le_refl _) (by omega), fun j h1 h2 => h j (by omega) (by omega)⟩

end Go.Proofs.Ytfcadpkhmkjibaa.P
/- Numbers in a range that rise. -/
namespace Go.Proofs.Ytfcadpkhmkjibaa.P
open Go.RowKit Go.Proofs.Ytfcadpkhmkjibaa.P Go.Proofs.YtfcadpkhmkjibaaW.PrintWords Go.Proofs.YtfcadpkhmkjibaaW.PrintLast Go.Proofs.YtfcadpkhmkjibaaW.PrintMore
set_option linter.unusedVariables false
set_option linter.unusedSimpArgs false
def riseOk (l : List Int) (lo hi : Int) (i : Nat) : Bool := decide (lo ≤ rd l i ∧ rd l i ≤ hi) && (decide (i = 0) || decide (rd l ((i - 1 : Nat) : Int) < rd l i))
def rises (l : List Int) (lo hi : Int) : Bool := upTo (riseOk l lo hi) l.length 0

end Go.Proofs.Ytfcadpkhmkjibaa.P
/- What is asked of a head. -/
namespace Go.Proofs.Ytfcadpkhmkjibaa.P
open Go.RowKit Go.Proofs.Ytfcadpkhmkjibaa.P Go.Proofs.YtfcadpkhmkjibaaW.PrintWords Go.Proofs.YtfcadpkhmkjibaaW.PrintLast Go.Proofs.YtfcadpkhmkjibaaW.PrintMore
set_option linter.unusedVariables false
set_option linter.unusedSimpArgs false
def cuOk (cs : List S34) (i : Nat) : Bool := decide (1 ≤ (rd_T34 cs i).f0 ∧ (rd_T34 cs i).f0 ≤ 100) && decide (1 ≤ (rd_T34 cs i).f1 ∧ (rd_T34 cs i).f1 ≤ 1000000)
def hdOk (cs : List S34) (fc st : List Int) (x y : Int) : Bool :=
  decide (1 ≤ (cs.length : Int) ∧ (cs.length : Int) ≤ 5) && (decide ((fc.length : Int) ≤ 60) && (decide ((st.length : Int) ≤ 8) && (rises st 0 (wrap64 ((fc.length : Int) - 1)) && (upTo (cuOk cs) cs.length 0 && (impl_areWithin.all 0 100 fc && (decide (0 ≤ x ∧ x ≤ 10000) && decide (0 ≤ y ∧ y ≤ 10000)))))))

end Go.Proofs.Ytfcadpkhmkjibaa.P
/- How far a cutter lasts, plainly. -/
namespace Go.Proofs.Ytfcadpkhmkjibaa.P
open Go.RowKit Go.Proofs.Ytfcadpkhmkjibaa.P Go.Proofs.YtfcadpkhmkjibaaW.PrintWords Go.Proofs.YtfcadpkhmkjibaaW.PrintLast Go.Proofs.YtfcadpkhmkjibaaW.PrintMore
set_option linter.unusedVariables false
set_option linter.unusedSimpArgs false
def reachGo (ax lim : Int) (fc : List Int) : Nat → Nat → Int → Nat
  | 0, i, _ => i
  | d + 1, i, s => if wrap64 (s + wrap64 (ax * rd fc (i : Int))) > lim then i else reachGo ax lim fc d (i + 1) (wrap64 (s + wrap64 (ax * rd fc (i : Int))))
def reachOf (cs : List S34) (fc : List Int) (a b : Nat) (s : Int) : Nat := reachGo (rd_T34 cs (a : Int)).f0 (rd_T34 cs (a : Int)).f1 fc (fc.length - b) b s
end Go.Proofs.Ytfcadpkhmkjibaa.P
/- The stints of a cutter, plainly. -/
namespace Go.Proofs.Ytfcadpkhmkjibaa.P
open Go.RowKit Go.Proofs.Ytfcadpkhmkjibaa.P Go.Proofs.YtfcadpkhmkjibaaW.PrintWords Go.Proofs.YtfcadpkhmkjibaaW.PrintLast Go.Proofs.YtfcadpkhmkjibaaW.PrintMore
set_option linter.unusedVariables false
set_option linter.unusedSimpArgs false
theorem reachGo_in (ax lim : Int) (fc : List Int) : ∀ (d i : Nat) (s : Int), i ≤ reachGo ax lim fc d i s ∧ reachGo ax lim fc d i s ≤ i + d
  | 0, i, s => by simp [reachGo]
  | d + 1, i, s => by
    have := reachGo_in ax lim fc d (i + 1) (wrap64 (s + wrap64 (ax * rd fc (i : Int))))
    simp only [reachGo]
    split <;> omega
theorem reachOf_in (cs : List S34) (fc : List Int) (a b : Nat) (s : Int) (hb : b ≤ fc.length) : b ≤ reachOf cs fc a b s ∧ reachOf cs fc a b s ≤ fc.length := by
  unfold reachOf
  have := reachGo_in (rd_T34 cs (a : Int)).f0 (rd_T34 cs (a : Int)).f1 fc (fc.length - b) b s
  omega
def nextOf (st : List Int) (b t : Int) : Nat → Nat → Int → Int
  | 0, _, c => c
  | d + 1, i, c => nextOf st b t d (i + 1) (if rd st (i : Int) > b then (if rd st (i : Int) ≤ t then rd st (i : Int) else c) else c)
def stintsGo (cs : List S34) (fc st : List Int) (a : Nat) : Nat → Nat → List (List Int) → List (List Int) × Bool
  | 0, _, _ => ([], false)
  | d + 1, b, acc => if ((reachOf cs fc a b 0 : Nat) : Int) = (fc.length : Int) then (acc, true) else
      if nextOf st b (reachOf cs fc a b 0 : Nat) st.length 0 (-1) < 0 then ([], false) else
      stintsGo cs fc st a d (nextOf st b (reachOf cs fc a b 0 : Nat) st.length 0 (-1)).toNat (acc ++ [[(b : Int), ((reachOf cs fc a b 0 : Nat) : Int)]])
def stints (cs : List S34) (fc st : List Int) (a : Nat) : List (List Int) × Bool := stintsGo cs fc st a (fc.length + 1) 0 []
end Go.Proofs.Ytfcadpkhmkjibaa.P
/- The bound on a head's cost, plainly. -/
namespace Go.Proofs.Ytfcadpkhmkjibaa.P
open Go.RowKit Go.Proofs.Ytfcadpkhmkjibaa.P Go.Proofs.YtfcadpkhmkjibaaW.PrintWords Go.Proofs.YtfcadpkhmkjibaaW.PrintLast Go.Proofs.YtfcadpkhmkjibaaW.PrintMore
set_option linter.unusedVariables false
set_option linter.unusedSimpArgs false
theorem hdOk_in {cs : List S34} {fc st : List Int} {x y : Int} (h : hdOk cs fc st x y = true) : cs.length ≤ 5 ∧ fc.length ≤ 60 ∧ st.length ≤ 8 ∧ (0 ≤ x ∧ x ≤ 10000) ∧ (0 ≤ y ∧ y ≤ 10000) := by
  unfold hdOk at h
  simp only [Bool.and_eq_true, decide_eq_true_eq] at h
  obtain ⟨h1, h2, h3, _, _, _, h4, h5⟩ := h
  exact ⟨by omega, by omega, by omega, h4, h5⟩

end Go.Proofs.Ytfcadpkhmkjibaa.P
/- What is asked of a plan. -/
namespace Go.Proofs.Ytfcadpkhmkjibaa.P
open Go.RowKit Go.Proofs.Ytfcadpkhmkjibaa.P Go.Proofs.YtfcadpkhmkjibaaW.PrintWords Go.Proofs.YtfcadpkhmkjibaaW.PrintLast Go.Proofs.YtfcadpkhmkjibaaW.PrintMore
set_option linter.unusedVariables false
set_option linter.unusedSimpArgs false
end Go.Proofs.Ytfcadpkhmkjibaa.P
/- How worn the cutters are, plainly. -/
namespace Go.Proofs.Ytfcadpkhmkjibaa.P
open Go.RowKit Go.Proofs.Ytfcadpkhmkjibaa.P Go.Proofs.YtfcadpkhmkjibaaW.PrintWords Go.Proofs.YtfcadpkhmkjibaaW.PrintLast Go.Proofs.YtfcadpkhmkjibaaW.PrintMore
set_option linter.unusedVariables false
set_option linter.unusedSimpArgs false
theorem rises_mem {l : List Int} {lo hi : Int} (h : rises l lo hi = true) : ∀ c ∈ l, lo ≤ c ∧ c ≤ hi := by
  intro c hc
  obtain ⟨i, hi, rfl⟩ := List.getElem_of_mem hc
  unfold rises at h
  have h2 := (upTo_iff _ _ _).mp h i (by omega) (by omega)
  simp only [riseOk, Bool.and_eq_true, decide_eq_true_eq] at h2
  rw [rd_at l i hi] at h2
  exact h2.1
theorem hd_cut {cs : List S34} {fc st : List Int} {x y : Int} (h : hdOk cs fc st x y = true) (i : Nat) (hi : i < cs.length) : (1 ≤ (rd_T34 cs i).f0 ∧ (rd_T34 cs i).f0 ≤ 100) ∧ (1 ≤ (rd_T34 cs i).f1 ∧ (rd_T34 cs i).f1 ≤ 1000000) := by
  unfold hdOk at h
  simp only [Bool.and_eq_true, decide_eq_true_eq] at h
  have h2 := (upTo_iff _ _ _).mp h.2.2.2.2.1 i (by omega) (by omega)
  simpa only [cuOk, Bool.and_eq_true, decide_eq_true_eq] using h2
theorem hd_hard {cs : List S34} {fc st : List Int} {x y : Int} (h : hdOk cs fc st x y = true) (i : Nat) (hi : i < fc.length) : 0 ≤ rd fc (i : Int) ∧ rd fc (i : Int) ≤ 100 := by
  unfold hdOk impl_areWithin.all at h
  simp only [Bool.and_eq_true, decide_eq_true_eq, List.all_eq_true] at h
  rw [rd_at fc i hi]
  exact h.2.2.2.2.2.1 _ (List.getElem_mem hi)
theorem mul100 (a b : Int) (ha : 0 ≤ a ∧ a ≤ 100) (hb : 0 ≤ b ∧ b ≤ 100) : 0 ≤ a * b ∧ a * b ≤ 10000 := by
  constructor
  · exact Int.mul_nonneg ha.1 hb.1
  · have h1 : a * b ≤ 100 * b := Int.mul_le_mul_of_nonneg_right ha.2 hb.1
    omega
def chg (p : List S49) (c n : Int) : Bool := p.any fun s => decide (s.f0 = n) && decide (c ∈ s.f1)
def wearStep (cs : List S34) (fc : List Int) (c n : Nat) : Int := (rd_T34 cs (c : Int)).f0 * rd fc (n : Int)
def wearP (cs : List S34) (fc : List Int) (p : List S49) (c : Nat) : Nat → Int
  | 0 => 0
  | n + 1 => if chg p c ((n + 1 : Nat) : Int) = true then 0 else wearP cs fc p c n + wearStep cs fc c n
def wearIn (cs : List S34) (fc : List Int) (p : List S49) (c : Nat) : Nat → Int
  | 0 => 0
  | n + 1 => wearP cs fc p c n + wearStep cs fc c n
theorem wearP_eq (cs : List S34) (fc : List Int) (p : List S49) (c n : Nat) : wearP cs fc p c n = if chg p c (n : Int) = true then 0 else wearIn cs fc p c n := by
  cases n with
  | zero => simp [wearP, wearIn]
  | succ n => rfl
theorem step_in {cs : List S34} {fc st : List Int} {x y : Int} (h : hdOk cs fc st x y = true) (c n : Nat) (hc : c < cs.length) (hn : n < fc.length) : 0 ≤ wearStep cs fc c n ∧ wearStep cs fc c n ≤ 10000 := by
  have h1 := (hd_cut h c hc).1
  have h2 := hd_hard h n hn
  exact mul100 _ _ ⟨by omega, h1.2⟩ h2
theorem wearP_in {cs : List S34} {fc st : List Int} {x y : Int} (p : List S49) (h : hdOk cs fc st x y = true) (c : Nat) (hc : c < cs.length) : ∀ n : Nat, n ≤ fc.length → 0 ≤ wearP cs fc p c n ∧ wearP cs fc p c n ≤ 10000 * n
  | 0, _ => by simp [wearP]
  | n + 1, hn => by
    have h1 := wearP_in p h c hc n (by omega)
    have h2 := step_in h c n hc (by omega)
    simp only [wearP]
    split <;> omega
def planIn (n : Nat) (p : List S49) : Prop := shortS p ∧ ∀ s ∈ p, ∀ c ∈ s.f1, 0 ≤ c ∧ c < n
def failC (cs : List S34) (fc : List Int) (p : List S49) (n : Nat) : Nat → Nat → Option Nat
  | 0, _ => none
  | d + 1, c => if wearP cs fc p c n + wearStep cs fc c n > (rd_T34 cs (c : Int)).f1 then some c else failC cs fc p n d (c + 1)
def failN (cs : List S34) (fc : List Int) (p : List S49) : Nat → Nat → Option (Nat × Nat)
  | 0, _ => none
  | d + 1, n => match failC cs fc p n cs.length 0 with
    | some c => some (c, n)
    | none => failN cs fc p d (n + 1)
def failP (cs : List S34) (fc : List Int) (p : List S49) : Option (Nat × Nat) := failN cs fc p fc.length 0

end Go.Proofs.Ytfcadpkhmkjibaa.P
/- A list that is told by what stands at each place. -/
namespace Go.Proofs.Ytfcadpkhmkjibaa.P
open Go.RowKit Go.Proofs.Ytfcadpkhmkjibaa.P Go.Proofs.YtfcadpkhmkjibaaW.PrintWords Go.Proofs.YtfcadpkhmkjibaaW.PrintLast Go.Proofs.YtfcadpkhmkjibaaW.PrintMore
set_option linter.unusedVariables false
set_option linter.unusedSimpArgs false
def wl (n : Nat) (f : Nat → Int) : List Int := (List.range n).map f
theorem wl_len (n : Nat) (f : Nat → Int) : (wl n f).length = n := by simp [wl]
theorem wl_get (n : Nat) (f : Nat → Int) (i : Nat) (h : i < (wl n f).length) : (wl n f)[i] = f i := by simp [wl]
theorem wl_rd (n : Nat) (f : Nat → Int) (i : Nat) (h : i < n) : rd (wl n f) (i : Int) = f i := by
  rw [rd_at _ i (by rw [wl_len]; exact h), wl_get]
theorem wl_congr (n : Nat) (f g : Nat → Int) (h : ∀ c, c < n → f c = g c) : wl n f = wl n g := by
  unfold wl
  apply List.map_congr_left
  intro c hc
  exact h c (List.mem_range.mp hc)
theorem wl_set (n : Nat) (f : Nat → Int) (i : Nat) (v : Int) : (wl n f).set i v = wl n (fun c => if c = i then v else f c) := by
  apply List.ext_getElem
  · rw [List.length_set, wl_len, wl_len]
  · intro j h1 h2
    rw [List.getElem_set, wl_get, wl_get]
    by_cases e : i = j
    · rw [if_pos e]
      show v = if j = i then v else f j
      rw [if_pos e.symm]
    · rw [if_neg e]
      show f j = if j = i then v else f j
      rw [if_neg (fun q : j = i => e q.symm)]
theorem wl_zero (n : Nat) : List.replicate n (0 : Int) = wl n (fun _ => 0) := by
  apply List.ext_getElem
  · rw [List.length_replicate, wl_len]
  · intro j h1 h2
    rw [wl_get, List.getElem_replicate]
end Go.Proofs.Ytfcadpkhmkjibaa.P
/- How worn the cutters are, as the program reckons it. -/
namespace Go.Proofs.Ytfcadpkhmkjibaa.P
open Go.RowKit Go.Proofs.Ytfcadpkhmkjibaa.P Go.Proofs.YtfcadpkhmkjibaaW.PrintWords Go.Proofs.YtfcadpkhmkjibaaW.PrintLast Go.Proofs.YtfcadpkhmkjibaaW.PrintMore
set_option linter.unusedVariables false
set_option linter.unusedSimpArgs false
theorem implWorn_l2 (cs : List S34) (fc st : List Int) (x y : Int) (p pl : List S49) (R n m i : Int) (ch : List Int) (hl : ch.length ≤ 1048576) (hch : ∀ c ∈ ch, 0 ≤ c ∧ c < cs.length) (F : Nat → Int) (out : Option (List Int)) (B : Nat)
    (hcont : ∀ k, B ≤ k → impl_Head_worn.l1 k p R (wl cs.length F) n pl m (wrap64 (i + 1)) cs fc st x y = out) : ∀ (d k j : Nat) (f : Nat → Int), j + d = ch.length → B + d < k → (∀ c : Nat, (if (c : Int) ∈ ch.drop j then 0 else f c) = F c) → impl_Head_worn.l2 k p R (wl cs.length f) n pl m i ch ch.length j cs fc st x y = out := by
  intro d
  induction d with
  | zero =>
    intro k j f hj hk hf
    obtain ⟨k, rfl⟩ : ∃ m, k = m + 1 := ⟨k - 1, by omega⟩
    simp only [impl_Head_worn.l2]
    rw [if_neg (by omega)]
    have e : f = F := by
      funext c
      have := hf c
      rw [List.drop_of_length_le (by omega)] at this
      simpa using this
    rw [e]
    exact hcont k (by omega)
  | succ d ih =>
    intro k j f hj hk hf
    obtain ⟨k, rfl⟩ : ∃ m, k = m + 1 := ⟨k - 1, by omega⟩
    have hc := hch _ (List.getElem_mem (show j < ch.length by omega))
    rw [← rd_at ch j (by omega)] at hc
    obtain ⟨q, hq⟩ : ∃ q : Nat, rd ch (j : Int) = q := ⟨(rd ch (j : Int)).toNat, by omega⟩
    simp only [impl_Head_worn.l2]
    rw [if_pos (by omega), if_pos (by omega), if_pos (by omega), if_pos hc.1, if_pos (by rw [wl_len]; exact hc.2), hq, Int.toNat_natCast, wl_set, w64s j (by omega)]
    refine ih k (j + 1) _ (by omega) (by omega) ?_
    intro c
    rw [← hf c, drop_at ch j (by omega), hq]
    by_cases h1 : c = q
    · subst h1
      simp
    · have h2 : ¬ (c : Int) = (q : Int) := by omega
      simp [h1, h2]
theorem implWorn_l1 (M : Nat) (hM : 1048580 ≤ M) (cs : List S34) (fc st : List Int) (x y : Int) (p : List S49) (R n : Int) (hp : planIn cs.length p) (F : Nat → Int) (out : Option (List Int)) (B : Nat)
    (hcont : ∀ k, B ≤ k → impl_Head_worn.l3 k p R (wl cs.length F) n cs cs.length 0 cs fc st x y = out) : ∀ (d k i : Nat) (f : Nat → Int), i + d = p.length → B + d * M < k → (∀ c : Nat, (if chg (p.drop i) c n = true then 0 else f c) = F c) → impl_Head_worn.l1 k p R (wl cs.length f) n p p.length i cs fc st x y = out := by
  intro d
  have hb := hp.1.1
  induction d with
  | zero =>
    intro k i f hj hk hf
    obtain ⟨k, rfl⟩ : ∃ m, k = m + 1 := ⟨k - 1, by omega⟩
    simp only [impl_Head_worn.l1]
    rw [if_neg (by omega)]
    have e : f = F := by
      funext c
      have := hf c
      rw [List.drop_of_length_le (by omega)] at this
      simpa [chg] using this
    rw [e]
    exact hcont k (by omega)
  | succ d ih =>
    intro k i f hj hk hf
    obtain ⟨k, rfl⟩ : ∃ m, k = m + 1 := ⟨k - 1, by omega⟩
    have hlt : i < p.length := by omega
    have hdm : (d + 1) * M = d * M + M := Nat.succ_mul d M
    have hs := shortS_at hp.1 i hlt
    have hm := hp.2 _ (List.getElem_mem hlt)
    rw [← rdStop_at p i hlt] at hm
    have hd : p.drop i = rd_T49 p (i : Int) :: p.drop (i + 1) := by rw [rdStop_at p i hlt, List.drop_eq_getElem_cons hlt]
    simp only [impl_Head_worn.l1]
    rw [if_pos (by omega), if_pos (by omega), if_pos (by omega)]
    by_cases h1 : (rd_T49 p (i : Int)).f0 = n
    · rw [if_pos h1]
      refine implWorn_l2 cs fc st x y p p R n p.length i _ hs hm (fun c => if (c : Int) ∈ (rd_T49 p (i : Int)).f1 then 0 else f c) out (B + d * M + 1) ?_ (rd_T49 p (i : Int)).f1.length k 0 f (by omega) (by omega) ?_
      · intro k2 hk2
        rw [w64s i (by omega)]
        refine ih k2 (i + 1) _ (by omega) (by omega) ?_
        intro c
        rw [← hf c, hd]
        simp only [chg, List.any_cons]
        by_cases h2 : (c : Int) ∈ (rd_T49 p (i : Int)).f1
        · simp [h1, h2]
        · simp [h2]
      · intro c
        rw [List.drop_zero]
    · rw [if_neg h1, w64s i (by omega)]
      refine ih k (i + 1) _ (by omega) (by omega) ?_
      intro c
      rw [← hf c, hd]
      simp [chg, h1]
theorem implWorn_l3a (cs : List S34) (fc st : List Int) (x y : Int) (hh : hdOk cs fc st x y = true) (p : List S49) (R n : Nat) (hn : n < R) (hR : R ≤ fc.length) (F : Nat → Int) (out : Option (List Int)) (B : Nat)
    (hcont : ∀ k, B ≤ k → impl_Head_worn.l0 k p R (wl cs.length F) ((n + 1 : Nat) : Int) cs fc st x y = out) : ∀ (d k j : Nat) (f : Nat → Int), j + d = cs.length → B + d < k → (∀ c : Nat, j ≤ c → c < cs.length → 0 ≤ f c ∧ f c ≤ 10000000) → (∀ c : Nat, c < cs.length → (if j ≤ c then f c + wearStep cs fc c n else f c) = F c) → impl_Head_worn.l3 k p R (wl cs.length f) n cs cs.length j cs fc st x y = out := by
  intro d
  have hin := hdOk_in hh
  induction d with
  | zero =>
    intro k j f hj hk hf hF
    obtain ⟨k, rfl⟩ : ∃ m, k = m + 1 := ⟨k - 1, by omega⟩
    simp only [impl_Head_worn.l3]
    rw [if_neg (by omega), w64s n (by omega), wl_congr cs.length f F (fun c hc => by have := hF c hc; rwa [if_neg (by omega)] at this)]
    exact hcont k (by omega)
  | succ d ih =>
    intro k j f hj hk hf hF
    obtain ⟨k, rfl⟩ : ∃ m, k = m + 1 := ⟨k - 1, by omega⟩
    have h1 := hf j (Nat.le_refl _) (by omega)
    have h2 := step_in hh j n (by omega) (by omega)
    have e1 : wrap64 ((rd_T34 cs (j : Int)).f0 * rd fc (n : Int)) = wearStep cs fc j n := by
      unfold wearStep at h2 ⊢
      rw [w64 _ (by omega) (by omega)]
    simp only [impl_Head_worn.l3]
    rw [if_pos (by omega), if_pos (by omega), if_pos (by omega), if_pos (by omega), if_pos (by rw [wl_len]; omega), if_pos (by omega), if_pos (by omega), e1, wl_rd _ _ j (by omega), w64 (f j + wearStep cs fc j n) (by omega) (by omega), Int.toNat_natCast, wl_set, w64s j (by omega)]
    refine ih k (j + 1) _ (by omega) (by omega) ?_ ?_
    · intro c h3 h4
      rw [if_neg (by omega)]
      exact hf c (by omega) h4
    · intro c h3
      rw [← hF c h3]
      by_cases h4 : c = j
      · subst h4
        rw [if_neg (by omega), if_pos rfl, if_pos (Nat.le_refl _)]
      · by_cases h5 : j ≤ c
        · rw [if_pos (by omega), if_neg h4, if_pos h5]
        · rw [if_neg (by omega), if_neg h4, if_neg h5]
theorem implWorn_l3b (cs : List S34) (fc st : List Int) (x y : Int) (p : List S49) (R : Nat) (hR : R ≤ 1048576) (hc : cs.length ≤ 1048576) (o : List Int) (out : Option (List Int)) (B : Nat)
    (hcont : ∀ k, B ≤ k → impl_Head_worn.l0 k p R o ((R + 1 : Nat) : Int) cs fc st x y = out) : ∀ (d k j : Nat), j + d = cs.length → B + d < k → impl_Head_worn.l3 k p R o R cs cs.length j cs fc st x y = out := by
  intro d
  induction d with
  | zero =>
    intro k j hj hk
    obtain ⟨k, rfl⟩ : ∃ m, k = m + 1 := ⟨k - 1, by omega⟩
    simp only [impl_Head_worn.l3]
    rw [if_neg (by omega), w64s R (by omega)]
    exact hcont k (by omega)
  | succ d ih =>
    intro k j hj hk
    obtain ⟨k, rfl⟩ : ∃ m, k = m + 1 := ⟨k - 1, by omega⟩
    simp only [impl_Head_worn.l3]
    rw [if_pos (by omega), if_pos (by omega), if_pos (by omega), if_neg (by omega), w64s j (by omega)]
    exact ih k (j + 1) (by omega) (by omega)
theorem implWorn_l0 (M C : Nat) (hM : 1048580 ≤ M) (cs : List S34) (fc st : List Int) (x y : Int) (hh : hdOk cs fc st x y = true) (p : List S49) (hp : planIn cs.length p) (R : Nat) (hR : R ≤ fc.length) (hC : p.length * M + 1000 ≤ C) : ∀ (e k n : Nat), n + e = R → (e + 1) * C < k → impl_Head_worn.l0 k p R (wl cs.length (fun c => wearIn cs fc p c n)) n cs fc st x y = some (wl cs.length (fun c => wearP cs fc p c R)) := by
  intro e
  have hin := hdOk_in hh
  have hb := hp.1.1
  induction e with
  | zero =>
    intro k n hn hk
    rw [Nat.zero_add, Nat.one_mul] at hk
    have hn2 : n = R := by omega
    subst hn2
    obtain ⟨k, rfl⟩ : ∃ m, k = m + 1 := ⟨k - 1, by omega⟩
    simp only [impl_Head_worn.l0]
    rw [if_pos (Int.le_refl _)]
    refine implWorn_l1 M hM cs fc st x y p n n hp (fun c => wearP cs fc p c n) _ 100 ?_ p.length k 0 _ (by omega) (by omega) ?_
    · intro k2 hk2
      refine implWorn_l3b cs fc st x y p n (by omega) (by omega) _ _ 1 ?_ cs.length k2 0 (by omega) (by omega)
      intro k3 hk3
      obtain ⟨k3, rfl⟩ : ∃ m, k3 = m + 1 := ⟨k3 - 1, by omega⟩
      simp only [impl_Head_worn.l0]
      rw [if_neg (by omega)]
    · intro c
      rw [List.drop_zero, wearP_eq]
  | succ e ih =>
    intro k n hn hk
    have hec : (e + 1 + 1) * C = (e + 1) * C + C := Nat.succ_mul (e + 1) C
    obtain ⟨k, rfl⟩ : ∃ m, k = m + 1 := ⟨k - 1, by omega⟩
    simp only [impl_Head_worn.l0]
    rw [if_pos (by omega)]
    refine implWorn_l1 M hM cs fc st x y p R n hp (fun c => wearP cs fc p c n) _ ((e + 1) * C + 100) ?_ p.length k 0 _ (by omega) (by omega) ?_
    · intro k2 hk2
      refine implWorn_l3a cs fc st x y hh p R n (by omega) hR (fun c => wearIn cs fc p c (n + 1)) _ ((e + 1) * C + 1) ?_ cs.length k2 0 _ (by omega) (by omega) ?_ ?_
      · intro k3 hk3
        exact ih k3 (n + 1) (by omega) (by omega)
      · intro c _ hc
        have := wearP_in p hh c hc n (by omega)
        omega
      · intro c hc
        rw [if_pos (Nat.zero_le _)]
        rfl
    · intro c
      rw [List.drop_zero, wearP_eq]
def wearOk (n : Nat) : Prop := 61 * 1099515900000 < n
theorem implWorn_is (wearK : Nat) (hW : wearOk wearK) (k : Nat) (cs : List S34) (fc st : List Int) (x y : Int) (hh : hdOk cs fc st x y = true) (p : List S49) (hp : planIn cs.length p) (R : Nat) (hR : R ≤ fc.length) (hk : wearK ≤ k) : impl_Head_worn.f k cs fc st x y p R = some (wl cs.length (fun c => wearP cs fc p c R)) := by
  have hin := hdOk_in hh
  have h1 : p.length * 1048580 ≤ 1048576 * 1048580 := Nat.mul_le_mul_right _ hp.1.1
  have h2 : (1048576 * 1048580 + 1000 : Nat) ≤ 1099515900000 := by decide
  have h3 : (R + 1) * 1099515900000 ≤ 61 * 1099515900000 := Nat.mul_le_mul_right _ (by omega)
  have h4 : 61 * 1099515900000 < wearK := hW
  unfold impl_Head_worn.f
  rw [if_pos (by omega), if_pos (by omega), Int.toNat_natCast, wl_zero]
  exact implWorn_l0 1048580 1099515900000 (Nat.le_refl _) cs fc st x y hh p hp R hR (Nat.le_trans (Nat.add_le_add_right h1 1000) h2) R k 0 (by omega) (Nat.lt_of_le_of_lt h3 (Nat.lt_of_lt_of_le h4 hk))
theorem implFail_l1 (cs : List S34) (fc st : List Int) (x y : Int) (hh : hdOk cs fc st x y = true) (p : List S49) (n : Nat) (hn : n < fc.length) (m : Int) (out : Option (Int × Int)) (B : Nat)
    (hcont : failC cs fc p n cs.length 0 = none → ∀ k, B ≤ k → impl_Head_failure.l0 k p fc m ((n + 1 : Nat) : Int) cs fc st x y = out) (hfound : ∀ c, failC cs fc p n cs.length 0 = some c → out = some ((c : Int), (n : Int))) : ∀ (d k j : Nat), j + d = cs.length → B + d < k → failC cs fc p n d j = failC cs fc p n cs.length 0 → impl_Head_failure.l1 k p n (rd fc (n : Int)) (wl cs.length (fun c => wearP cs fc p c n)) fc m n cs cs.length j cs fc st x y = out := by
  intro d
  have hin := hdOk_in hh
  induction d with
  | zero =>
    intro k j hj hk he
    obtain ⟨k, rfl⟩ : ∃ m, k = m + 1 := ⟨k - 1, by omega⟩
    simp only [impl_Head_failure.l1]
    rw [if_neg (by omega), w64s n (by omega)]
    exact hcont (by rw [← he]; rfl) k (by omega)
  | succ d ih =>
    intro k j hj hk he
    obtain ⟨k, rfl⟩ : ∃ m, k = m + 1 := ⟨k - 1, by omega⟩
    have h1 := wearP_in p hh j (by omega) n (by omega)
    have h2 := step_in hh j n (by omega) hn
    have e1 : wrap64 ((rd_T34 cs (j : Int)).f0 * rd fc (n : Int)) = wearStep cs fc j n := by
      unfold wearStep at h2 ⊢
      rw [w64 _ (by omega) (by omega)]
    simp only [impl_Head_failure.l1]
    rw [if_pos (by omega), if_pos (by omega), if_pos (by omega), if_pos (by rw [wl_len]; omega), e1, wl_rd _ _ j (by omega), w64 (wearP cs fc p j n + wearStep cs fc j n) (by omega) (by omega), w64s j (by omega)]
    simp only [failC] at he
    by_cases h3 : wearP cs fc p j n + wearStep cs fc j n > (rd_T34 cs (j : Int)).f1
    · rw [if_pos h3] at he ⊢
      exact (hfound j he.symm).symm
    · rw [if_neg h3] at he ⊢
      exact ih k (j + 1) (by omega) (by omega) he
theorem implFail_l0 (wearK : Nat) (hW : wearOk wearK) (cs : List S34) (fc st : List Int) (x y : Int) (hh : hdOk cs fc st x y = true) (p : List S49) (hp : planIn cs.length p) : ∀ (d k n : Nat), n + d = fc.length → wearK + 100 * d < k → impl_Head_failure.l0 k p fc fc.length n cs fc st x y = some (match failN cs fc p d n with | some (c, n) => ((c : Int), (n : Int)) | none => (-1, -1)) := by
  intro d
  have hin := hdOk_in hh
  induction d with
  | zero =>
    intro k n hn hk
    obtain ⟨k, rfl⟩ : ∃ m, k = m + 1 := ⟨k - 1, by omega⟩
    simp only [impl_Head_failure.l0, failN]
    rw [if_neg (by omega)]
  | succ d ih =>
    intro k n hn hk
    obtain ⟨k, rfl⟩ : ∃ m, k = m + 1 := ⟨k - 1, by omega⟩
    simp only [impl_Head_failure.l0, failN]
    rw [if_pos (by omega), if_pos (by omega), if_pos (by omega), implWorn_is wearK hW k cs fc st x y hh p hp n (by omega) (by omega), bind_some_]
    refine implFail_l1 cs fc st x y hh p n (by omega) _ _ (wearK + 100 * d + 1) ?_ ?_ cs.length k 0 (by omega) (by omega) rfl
    · intro h1 k2 hk2
      rw [h1]
      exact ih k2 (n + 1) (by omega) (by omega)
    · intro c hc
      rw [hc]
theorem implFail_is (wearK : Nat) (hW : wearOk wearK) (k : Nat) (cs : List S34) (fc st : List Int) (x y : Int) (hh : hdOk cs fc st x y = true) (p : List S49) (hp : planIn cs.length p) (hk : wearK + 10000 ≤ k) : impl_Head_failure.f k cs fc st x y p = some (match failP cs fc p with | some (c, n) => ((c : Int), (n : Int)) | none => (-1, -1)) := by
  have hin := hdOk_in hh
  unfold impl_Head_failure.f failP
  exact implFail_l0 wearK hW cs fc st x y hh p hp fc.length k 0 (by omega) (by omega)

end Go.Proofs.Ytfcadpkhmkjibaa.P
/- A list of structs is equal to itself. -/
namespace Go.Proofs.Ytfcadpkhmkjibaa.P
open Go.RowKit Go.Proofs.Ytfcadpkhmkjibaa.P Go.Proofs.YtfcadpkhmkjibaaW.PrintWords Go.Proofs.YtfcadpkhmkjibaaW.PrintLast Go.Proofs.YtfcadpkhmkjibaaW.PrintMore
set_option linter.unusedVariables false
set_option linter.unusedSimpArgs false
theorem eqCutterS_loop (a : List S34) (hb : a.length ≤ 9223372036854775807) : ∀ (d k i : Nat), i + d = a.length → d < k → laws_eqCutterS.l0 k a a i = some true := by
  intro d
  induction d with
  | zero =>
    intro k i hi hk
    obtain ⟨k, rfl⟩ : ∃ m, k = m + 1 := ⟨k - 1, by omega⟩
    simp only [laws_eqCutterS.l0]
    rw [if_neg (by omega)]
  | succ d ih =>
    intro k i hi hk
    obtain ⟨k, rfl⟩ : ∃ m, k = m + 1 := ⟨k - 1, by omega⟩
    simp only [laws_eqCutterS.l0, laws_eqCutter.f, if_true, bind_some_]
    rw [if_pos (by omega), if_pos (by omega), if_pos (by omega), w64s i (by omega)]
    exact ih k (i + 1) (by omega) (by omega)
theorem eqCutterS_refl (k : Nat) (a : List S34) (hb : a.length ≤ 9223372036854775807) (hk : a.length < k) : laws_eqCutterS.f k a a = some true := by
  unfold laws_eqCutterS.f
  rw [if_pos rfl]
  exact eqCutterS_loop a hb a.length k 0 (by omega) hk

end Go.Proofs.Ytfcadpkhmkjibaa.P
/- A list of the law's own structs is copied into the program's. -/
namespace Go.Proofs.Ytfcadpkhmkjibaa.P
open Go.RowKit Go.Proofs.Ytfcadpkhmkjibaa.P Go.Proofs.YtfcadpkhmkjibaaW.PrintWords Go.Proofs.YtfcadpkhmkjibaaW.PrintLast Go.Proofs.YtfcadpkhmkjibaaW.PrintMore
set_option linter.unusedVariables false
set_option linter.unusedSimpArgs false
def toCutter (x : S113) : S34 := ⟨x.f0, x.f1⟩
theorem rdLCutter_at (l : List S113) (i : Nat) (h : i < l.length) : rd_T113 l (i : Int) = l[i] := by
  unfold rd_T113
  rw [Int.toNat_natCast, List.getD_eq_getElem?_getD, List.getElem?_eq_getElem h]
  rfl
theorem toCutterS_loop (l : List S113) (hb : l.length ≤ 9223372036854775807) : ∀ (d k i : Nat) (acc : List S34), i + d = l.length → d < k → acc.length = l.length → acc.take i = (l.map toCutter).take i → laws_toCutterS.l0 k l acc i = some (l.map toCutter) := by
  intro d
  induction d with
  | zero =>
    intro k i acc hi hk ha ht
    obtain ⟨k, rfl⟩ : ∃ m, k = m + 1 := ⟨k - 1, by omega⟩
    simp only [laws_toCutterS.l0]
    rw [if_neg (by omega)]
    rw [List.take_of_length_le (by omega), List.take_of_length_le (by rw [List.length_map]; omega)] at ht
    rw [ht]
  | succ d ih =>
    intro k i acc hi hk ha ht
    obtain ⟨k, rfl⟩ : ∃ m, k = m + 1 := ⟨k - 1, by omega⟩
    simp only [laws_toCutterS.l0, laws_toCutter.f, bind_some_]
    rw [if_pos (by omega), if_pos (by omega), if_pos (by omega), w64s i (by omega), Int.toNat_natCast]
    refine ih k (i + 1) _ (by omega) (by omega) (by rw [List.length_set]; exact ha) (fill_step (l.map toCutter) acc i _ (by rw [List.length_map]; omega) (by rw [List.length_map]; exact ha) ht ?_)
    rw [List.getElem_map, rdLCutter_at l i (by omega)]
    rfl
theorem toCutterS_is (k : Nat) (l : List S113) (hb : l.length ≤ 1048576) (hk : l.length < k) : laws_toCutterS.f k l = some (l.map toCutter) := by
  unfold laws_toCutterS.f
  rw [if_pos (by omega), if_pos (by omega)]
  exact toCutterS_loop l (by omega) l.length k 0 _ (by omega) hk (by simp) (by simp)

end Go.Proofs.Ytfcadpkhmkjibaa.P
/- A head is copied, measured, and equal to itself. -/
namespace Go.Proofs.Ytfcadpkhmkjibaa.P
open Go.RowKit Go.Proofs.Ytfcadpkhmkjibaa.P Go.Proofs.YtfcadpkhmkjibaaW.PrintWords Go.Proofs.YtfcadpkhmkjibaaW.PrintLast Go.Proofs.YtfcadpkhmkjibaaW.PrintMore
set_option linter.unusedVariables false
set_option linter.unusedSimpArgs false
theorem toHead_is (k : Nat) (cs : List S113) (fc st : List Int) (x y : Int) (hc : cs.length ≤ 1048576) (hb : fc.length ≤ 1048576) (hs : st.length ≤ 1048576) (hk : cs.length + fc.length + st.length < k) : laws_toHead.f k cs fc st x y = some (cs.map toCutter, fc, st, x, y) := by
  unfold laws_toHead.f
  rw [toCutterS_is k cs hc (by omega), bind_some_, toInt_is k fc (by omega) (by omega), bind_some_, toInt_is k st (by omega) (by omega), bind_some_]
theorem eqHead_refl (k : Nat) (cs : List S34) (fc st : List Int) (x y : Int) (hc : cs.length ≤ 1048576) (hb : fc.length ≤ 1048576) (hs : st.length ≤ 1048576) (hk : cs.length + fc.length + st.length < k) : laws_eqHead.f k cs fc st x y cs fc st x y = some true := by
  unfold laws_eqHead.f
  rw [eqCutterS_refl k cs (by omega) (by omega), bind_some_, if_pos rfl, eqInt_is k fc fc (by omega) (by omega), bind_some_, if_pos (decide_eq_true rfl), eqInt_is k st st (by omega) (by omega), bind_some_, if_pos (decide_eq_true rfl), if_pos rfl, if_pos rfl]
theorem szHead_is2 (cs : List S113) (fc st : List Int) (x y : Int) (hc : cs.length ≤ 9223372036854775807) (hb : fc.length ≤ 9223372036854775807) (hs : st.length ≤ 9223372036854775807) : ∃ r, laws_szHead.f cs fc st x y 1048576 = some r ∧ r ≤ 1048576 ∧ (r < 0 ∨ (cs.length ≤ 1048576 ∧ fc.length ≤ 1048576 ∧ st.length ≤ 1048576)) := by
  unfold laws_szHead.f laws_szCutterS.f laws_szInt64S.f
  rw [w64 (1048576 - (cs.length : Int)) (by omega) (by omega)]
  by_cases h1 : 1048576 - (cs.length : Int) < 0
  · rw [if_pos h1, bind_some_, if_pos (by omega)]
    exact ⟨_, rfl, by omega, Or.inl (by omega)⟩
  · rw [if_neg h1, bind_some_, if_neg h1, w64 (1048576 - (cs.length : Int) - (fc.length : Int)) (by omega) (by omega)]
    by_cases h2 : 1048576 - (cs.length : Int) - (fc.length : Int) < 0
    · rw [if_pos h2, bind_some_, if_pos (by omega)]
      exact ⟨_, rfl, by omega, Or.inl (by omega)⟩
    · rw [if_neg h2, bind_some_, if_neg h2, w64 (1048576 - (cs.length : Int) - (fc.length : Int) - (st.length : Int)) (by omega) (by omega)]
      by_cases h3 : 1048576 - (cs.length : Int) - (fc.length : Int) - (st.length : Int) < 0
      · rw [if_pos h3, bind_some_, if_pos (by omega)]
        exact ⟨_, rfl, by omega, Or.inl (by omega)⟩
      · rw [if_neg h3, bind_some_, if_neg h3]
        exact ⟨_, rfl, by omega, Or.inr (by omega)⟩
theorem szHead_is (cs : List S113) (fc st : List Int) (x y : Int) (hc : cs.length ≤ 9223372036854775807) (hb : fc.length ≤ 9223372036854775807) (hs : st.length ≤ 9223372036854775807) : ∃ r, laws_szHead.f cs fc st x y 1048576 = some r ∧ (r < 0 ∨ (cs.length ≤ 1048576 ∧ fc.length ≤ 1048576 ∧ st.length ≤ 1048576)) := by
  obtain ⟨r, h1, _, h2⟩ := szHead_is2 cs fc st x y hc hb hs
  exact ⟨r, h1, h2⟩

end Go.Proofs.Ytfcadpkhmkjibaa.P
/- An element of a list of structs, read at an index. -/
namespace Go.Proofs.Ytfcadpkhmkjibaa.P
open Go.RowKit Go.Proofs.Ytfcadpkhmkjibaa.P Go.Proofs.YtfcadpkhmkjibaaW.PrintWords Go.Proofs.YtfcadpkhmkjibaaW.PrintLast Go.Proofs.YtfcadpkhmkjibaaW.PrintMore
set_option linter.unusedVariables false
set_option linter.unusedSimpArgs false
theorem rdCutter_at (l : List S34) (i : Nat) (h : i < l.length) : rd_T34 l (i : Int) = l[i] := by
  unfold rd_T34
  rw [Int.toNat_natCast, List.getD_eq_getElem?_getD, List.getElem?_eq_getElem h]
  rfl
end Go.Proofs.Ytfcadpkhmkjibaa.P
/- A list of structs is marked with rising numbers, and still holds them. -/
namespace Go.Proofs.Ytfcadpkhmkjibaa.P
open Go.RowKit Go.Proofs.Ytfcadpkhmkjibaa.P Go.Proofs.YtfcadpkhmkjibaaW.PrintWords Go.Proofs.YtfcadpkhmkjibaaW.PrintLast Go.Proofs.YtfcadpkhmkjibaaW.PrintMore
set_option linter.unusedVariables false
set_option linter.unusedSimpArgs false
def iotaCutter (m : Int) (c : Nat) : List S34 := (List.range c).map fun (i : Nat) => ⟨m + 2 * (i : Int), m + 2 * (i : Int) + 1⟩
theorem iotaCutter_len (m : Int) (c : Nat) : (iotaCutter m c).length = c := by simp [iotaCutter]
theorem iotaCutter_get (m : Int) (c i : Nat) (h : i < (iotaCutter m c).length) : (iotaCutter m c)[i] = ⟨m + 2 * (i : Int), m + 2 * (i : Int) + 1⟩ := by simp [iotaCutter]
theorem rdCutter_set (l : List S34) (i : Nat) (x : S34) (h : i < l.length) : rd_T34 (l.set i x) (i : Int) = x := by
  rw [rdCutter_at _ i (by rw [List.length_set]; exact h), List.getElem_set_self]
theorem markCutterS_loop (c : Nat) (hb : c ≤ 4000000000000000) (m : Int) (hm : 0 ≤ m ∧ m ≤ 4000000000000000) : ∀ (d k i : Nat) (l : List S34), i + d = c → d < k → l.length = c → l.take i = (iotaCutter m c).take i → laws_markCutterS.l0 k l (m + 2 * (i : Int)) i = some (m + 2 * c, iotaCutter m c) := by
  intro d
  induction d with
  | zero =>
    intro k i l hi hk hl ht
    obtain ⟨k, rfl⟩ : ∃ m, k = m + 1 := ⟨k - 1, by omega⟩
    simp only [laws_markCutterS.l0]
    rw [if_neg (by omega)]
    rw [List.take_of_length_le (by omega), List.take_of_length_le (by rw [iotaCutter_len]; omega)] at ht
    rw [ht, show i = c by omega]
  | succ d ih =>
    intro k i l hi hk hl ht
    obtain ⟨k, rfl⟩ : ∃ m, k = m + 1 := ⟨k - 1, by omega⟩
    have e1 : wrap64 (m + 2 * (i : Int) + 1) = m + 2 * (i : Int) + 1 := by
      rw [w64 _ (by omega) (by omega)] <;> omega
    have e2 : wrap64 (m + 2 * (i : Int) + 1 + 1) = m + 2 * ((i + 1 : Nat) : Int) := by
      rw [w64 _ (by omega) (by omega)] <;> omega
    simp only [laws_markCutterS.l0, bind_some_, Int.toNat_natCast, List.set_set, rdCutter_set l i _ (show i < l.length by omega)]
    rw [if_pos (by omega), if_pos (by omega), w64s i (by omega)]
    simp only [Int.add_assoc, Int.reduceAdd] at *
    simp only [e1, e2, Int.add_assoc, Int.reduceAdd]
    have ht2 := fill_step (iotaCutter m c) l i ⟨m + 2 * (i : Int), m + 2 * (i : Int) + 1⟩ (by rw [iotaCutter_len]; omega) (by rw [iotaCutter_len]; exact hl) ht (iotaCutter_get m c i (by rw [iotaCutter_len]; omega))
    have hz := ih k (i + 1) _ (by omega) (by omega) (by rw [List.length_set]; exact hl) ht2
    simp only [Int.add_assoc, Int.reduceAdd, List.set_set] at hz ⊢
    exact hz
theorem markCutterS_is (k : Nat) (l : List S34) (m : Int) (hm : 0 ≤ m ∧ m ≤ 4000000000000000) (hb : l.length ≤ 4000000000000000) (hk : l.length < k) : laws_markCutterS.f k l m = some (m + 2 * l.length, iotaCutter m l.length) := by
  unfold laws_markCutterS.f
  have := markCutterS_loop l.length hb m hm l.length k 0 l (by omega) hk rfl (by simp)
  simpa using this

end Go.Proofs.Ytfcadpkhmkjibaa.P
/- A head is marked. -/
namespace Go.Proofs.Ytfcadpkhmkjibaa.P
open Go.RowKit Go.Proofs.Ytfcadpkhmkjibaa.P Go.Proofs.YtfcadpkhmkjibaaW.PrintWords Go.Proofs.YtfcadpkhmkjibaaW.PrintLast Go.Proofs.YtfcadpkhmkjibaaW.PrintMore
set_option linter.unusedVariables false
set_option linter.unusedSimpArgs false
theorem markHead_ok (k : Nat) (cs : List S34) (fc st : List Int) (x y : Int) (hc : cs.length ≤ 1048576) (hb : fc.length ≤ 1048576) (hs : st.length ≤ 1048576) (hk : cs.length + fc.length + st.length < k) : ∃ b, laws_markHead.f k cs fc st x y 1 = some b ∧ 0 ≤ b.1 ∧ b.1 ≤ 4194305 := by
  refine ⟨(1 + 2 * (cs.length : Int) + fc.length + st.length, iotaCutter 1 cs.length, iota (1 + 2 * (cs.length : Int)) fc.length, iota (1 + 2 * (cs.length : Int) + fc.length) st.length), ?_, ?_, ?_⟩
  · unfold laws_markHead.f
    rw [markCutterS_is k cs 1 (by omega) (by omega) (by omega), bind_some_]
    try dsimp only
    rw [markInt_is k fc (1 + 2 * (cs.length : Int)) (by omega) (by omega) (by omega), bind_some_]
    try dsimp only
    rw [markInt_is k st (1 + 2 * (cs.length : Int) + fc.length) (by omega) (by omega) (by omega), bind_some_]
  · dsimp only
    omega
  · dsimp only
    omega

end Go.Proofs.Ytfcadpkhmkjibaa.P
/- A number is in a list, as the reference asks it. -/
namespace Go.Proofs.Ytfcadpkhmkjibaa.P
open Go.RowKit Go.Proofs.Ytfcadpkhmkjibaa.P Go.Proofs.YtfcadpkhmkjibaaW.PrintWords Go.Proofs.YtfcadpkhmkjibaaW.PrintLast Go.Proofs.YtfcadpkhmkjibaaW.PrintMore
set_option linter.unusedVariables false
set_option linter.unusedSimpArgs false
theorem specHas_loop (l : List Int) (n : Int) (hb : l.length ≤ 9223372036854775806) : ∀ (d k i : Nat), i + d = l.length → d < k → spec_l00Has.l0 k l n i = some (decide (n ∈ l.drop i)) := by
  intro d
  induction d with
  | zero =>
    intro k i hi hk
    obtain ⟨k, rfl⟩ : ∃ m, k = m + 1 := ⟨k - 1, by omega⟩
    simp only [spec_l00Has.l0]
    rw [if_neg (by omega), List.drop_of_length_le (by omega)]
    simp
  | succ d ih =>
    intro k i hi hk
    obtain ⟨k, rfl⟩ : ∃ m, k = m + 1 := ⟨k - 1, by omega⟩
    simp only [spec_l00Has.l0]
    rw [if_pos (by omega), if_pos (by omega), w64s i (by omega), ih k (i + 1) (by omega) (by omega), drop_at l i (by omega)]
    by_cases h : rd l i = n
    · rw [if_pos h]; simp [h]
    · rw [if_neg h]
      have h2 : ¬ n = rd l i := fun e => h e.symm
      simp [h2]
theorem specHas_is (k : Nat) (l : List Int) (n : Int) (hb : l.length ≤ 9223372036854775806) (hk : l.length < k) : spec_l00Has.f k l n = some (decide (n ∈ l)) := by
  unfold spec_l00Has.f
  have := specHas_loop l n hb l.length k 0 (by omega) hk
  simpa using this

end Go.Proofs.Ytfcadpkhmkjibaa.P
/- Numbers in a range, as the program asks it of a list. -/
namespace Go.Proofs.Ytfcadpkhmkjibaa.P
open Go.RowKit Go.Proofs.Ytfcadpkhmkjibaa.P Go.Proofs.YtfcadpkhmkjibaaW.PrintWords Go.Proofs.YtfcadpkhmkjibaaW.PrintLast Go.Proofs.YtfcadpkhmkjibaaW.PrintMore
set_option linter.unusedVariables false
set_option linter.unusedSimpArgs false
theorem areWithin2 (a b lo hi : Int) : impl_areWithin.all lo hi [a, b] = (decide (lo ≤ a ∧ a ≤ hi) && decide (lo ≤ b ∧ b ≤ hi)) := by
  simp [impl_areWithin.all]

end Go.Proofs.Ytfcadpkhmkjibaa.P
/- A number lies in a range, as the program asks it. -/
namespace Go.Proofs.Ytfcadpkhmkjibaa.P
open Go.RowKit Go.Proofs.Ytfcadpkhmkjibaa.P Go.Proofs.YtfcadpkhmkjibaaW.PrintWords Go.Proofs.YtfcadpkhmkjibaaW.PrintLast Go.Proofs.YtfcadpkhmkjibaaW.PrintMore
set_option linter.unusedVariables false
set_option linter.unusedSimpArgs false
theorem within_is (a b c : Int) : impl_within.f a b c = some (decide (b ≤ a ∧ a ≤ c)) := by
  unfold impl_within.f
  by_cases h : b ≤ a <;> simp [h]

end Go.Proofs.Ytfcadpkhmkjibaa.P
/- Numbers in a range that rise, as the program asks it. -/
namespace Go.Proofs.Ytfcadpkhmkjibaa.P
open Go.RowKit Go.Proofs.Ytfcadpkhmkjibaa.P Go.Proofs.YtfcadpkhmkjibaaW.PrintWords Go.Proofs.YtfcadpkhmkjibaaW.PrintLast Go.Proofs.YtfcadpkhmkjibaaW.PrintMore
set_option linter.unusedVariables false
set_option linter.unusedSimpArgs false
theorem implRises_loop (l : List Int) (n : Int) (hb : l.length ≤ 9223372036854775806) : ∀ (d k i : Nat), i + d = l.length → d < k → impl_isSet.l0 k l n l l.length i = some (upTo (riseOk l 0 (wrap64 (n - 1))) d i) := by
  intro d
  induction d with
  | zero =>
    intro k i hi' hk
    obtain ⟨k, rfl⟩ : ∃ m, k = m + 1 := ⟨k - 1, by omega⟩
    simp only [impl_isSet.l0]
    rw [if_neg (by omega)]
    rfl
  | succ d ih =>
    intro k i hi' hk
    obtain ⟨k, rfl⟩ : ∃ m, k = m + 1 := ⟨k - 1, by omega⟩
    have hz := ih k (i + 1) (by omega) (by omega)
    simp only [impl_isSet.l0, within_is, bind_some_, upTo, riseOk]
    rw [if_pos (by omega), if_pos (by omega), if_pos (by omega), w64s i (by omega), hz]
    by_cases h : i = 0
    · rw [if_neg (show ¬ (i : Int) > 0 by omega), ite_tt, decide_eq_true h, Bool.true_or, Bool.and_true]
    · have e : wrap64 ((i : Int) - 1) = ((i - 1 : Nat) : Int) := by rw [w64 _ (by omega) (by omega)]; omega
      rw [if_pos (show (i : Int) > 0 by omega), e, if_pos (show (0 : Int) ≤ ((i - 1 : Nat) : Int) by omega), if_pos (show ((i - 1 : Nat) : Int) < (l.length : Int) by omega), ite_ff, ite_tt, not_ge_dec, decide_eq_false h, Bool.false_or, Bool.and_assoc]
theorem implRises_is (k : Nat) (l : List Int) (n : Int) (hb : l.length ≤ 9223372036854775806) (hk : l.length < k) : impl_isSet.f k l n = some (rises l 0 (wrap64 (n - 1))) := by
  unfold impl_isSet.f rises
  exact implRises_loop l n hb l.length k 0 (by omega) hk

end Go.Proofs.Ytfcadpkhmkjibaa.P
/- What the program asks of a head. -/
namespace Go.Proofs.Ytfcadpkhmkjibaa.P
open Go.RowKit Go.Proofs.Ytfcadpkhmkjibaa.P Go.Proofs.YtfcadpkhmkjibaaW.PrintWords Go.Proofs.YtfcadpkhmkjibaaW.PrintLast Go.Proofs.YtfcadpkhmkjibaaW.PrintMore
set_option linter.unusedVariables false
set_option linter.unusedSimpArgs false
theorem implHead_l0 (cs : List S34) (fc st : List Int) (x y : Int) (hc : cs.length ≤ 1048576) (hb : fc.length ≤ 1048576) (hs : st.length ≤ 1048576) : ∀ (d k i : Nat), i + d = cs.length → d + st.length + 1 < k → impl_ValidHead.l0 k cs cs.length i cs fc st x y = some (upTo (cuOk cs) d i && (decide (1 ≤ (cs.length : Int) ∧ (cs.length : Int) ≤ 5) && (decide ((fc.length : Int) ≤ 60) && (impl_areWithin.all 0 100 fc && (decide ((st.length : Int) ≤ 8) && (rises st 0 (wrap64 ((fc.length : Int) - 1)) && (decide (0 ≤ x ∧ x ≤ 10000) && decide (0 ≤ y ∧ y ≤ 10000)))))))) := by
  intro d
  induction d with
  | zero =>
    intro k i hi' hk
    obtain ⟨k, rfl⟩ : ∃ m, k = m + 1 := ⟨k - 1, by omega⟩
    simp only [impl_ValidHead.l0, within_is, impl_areWithin.f, bind_some_, areWithin2]
    rw [if_neg (by omega), implRises_is k st _ (by omega) (by omega)]
    simp only [bind_some_, ite_tt, ite_pp, upTo, Bool.true_and, Bool.decide_eq_true]
  | succ d ih =>
    intro k i hi' hk
    obtain ⟨k, rfl⟩ : ∃ m, k = m + 1 := ⟨k - 1, by omega⟩
    have hz := ih k (i + 1) (by omega) (by omega)
    simp only [impl_ValidHead.l0, within_is, bind_some_]
    rw [if_pos (by omega), if_pos (by omega), if_pos (by omega), w64s i (by omega), hz, ite_tt, ite_tt]
    simp only [upTo, cuOk, Bool.and_assoc]
theorem implHead_is (k : Nat) (cs : List S34) (fc st : List Int) (x y : Int) (hc : cs.length ≤ 1048576) (hb : fc.length ≤ 1048576) (hs : st.length ≤ 1048576) (hk : cs.length + st.length + 3 < k) : impl_ValidHead.f k cs fc st x y = some (hdOk cs fc st x y) := by
  unfold impl_ValidHead.f
  have h0 := implHead_l0 cs fc st x y hc hb hs cs.length k 0 (by omega) (by omega)
  rw [show ((0 : Nat) : Int) = 0 by rfl] at h0
  rw [h0]
  unfold hdOk
  congr 1
  ac_rfl

end Go.Proofs.Ytfcadpkhmkjibaa.P
/- How far a cutter lasts, as the program reckons it. -/
namespace Go.Proofs.Ytfcadpkhmkjibaa.P
open Go.RowKit Go.Proofs.Ytfcadpkhmkjibaa.P Go.Proofs.YtfcadpkhmkjibaaW.PrintWords Go.Proofs.YtfcadpkhmkjibaaW.PrintLast Go.Proofs.YtfcadpkhmkjibaaW.PrintMore
set_option linter.unusedVariables false
set_option linter.unusedSimpArgs false
theorem implReach_l0 (cs : List S34) (fc st : List Int) (x y ax lim : Int) (hb : fc.length ≤ 9223372036854775806) : ∀ (d k i : Nat) (s : Int), i + d = fc.length → d < k → impl_Head_reach.l0 k i s cs fc st x y ax lim = some ((reachGo ax lim fc d i s : Nat) : Int) := by
  intro d
  induction d with
  | zero =>
    intro k i s hi hk
    obtain ⟨k, rfl⟩ : ∃ m, k = m + 1 := ⟨k - 1, by omega⟩
    simp only [impl_Head_reach.l0, reachGo]
    rw [if_neg (by omega)]
  | succ d ih =>
    intro k i s hi hk
    obtain ⟨k, rfl⟩ : ∃ m, k = m + 1 := ⟨k - 1, by omega⟩
    simp only [impl_Head_reach.l0, reachGo]
    rw [if_pos (by omega), if_pos (by omega), w64s i (by omega), ih k (i + 1) _ (by omega) (by omega)]
    split <;> rfl
theorem implReach_is (k : Nat) (cs : List S34) (fc st : List Int) (x y : Int) (a b : Nat) (s : Int) (ha : a < cs.length) (hb : fc.length ≤ 9223372036854775806) (hbl : b ≤ fc.length) (hk : fc.length < k) : impl_Head_reach.f k cs fc st x y a b s = some ((reachOf cs fc a b s : Nat) : Int) := by
  unfold impl_Head_reach.f reachOf
  rw [if_pos (by omega), if_pos (by omega)]
  exact implReach_l0 cs fc st x y _ _ hb (fc.length - b) k b s (by omega) (by omega)

end Go.Proofs.Ytfcadpkhmkjibaa.P
/- The plan for stops, plainly. -/
namespace Go.Proofs.Ytfcadpkhmkjibaa.P
open Go.RowKit Go.Proofs.Ytfcadpkhmkjibaa.P Go.Proofs.YtfcadpkhmkjibaaW.PrintWords Go.Proofs.YtfcadpkhmkjibaaW.PrintLast Go.Proofs.YtfcadpkhmkjibaaW.PrintMore
set_option linter.unusedVariables false
set_option linter.unusedSimpArgs false
def pickGo (cs : List S34) (fc : List Int) (p : List S49) (r nx : Nat) : Nat → Nat → List Int
  | 0, _ => []
  | d + 1, c => if reachOf cs fc c r (wearP cs fc p c r) < nx then (c : Int) :: pickGo cs fc p r nx d (c + 1) else pickGo cs fc p r nx d (c + 1)
def pick (cs : List S34) (fc : List Int) (p : List S49) (r nx : Nat) : List Int := pickGo cs fc p r nx cs.length 0
def forStep (cs : List S34) (fc : List Int) (r nx : Nat) (p : List S49) : List S49 :=
  if ((pick cs fc p r nx).length : Int) > 0 then p ++ [⟨(r : Int), pick cs fc p r nx⟩] else p
def nextAt (fc s : List Int) (i : Nat) : Nat := if ((i + 1 : Nat) : Int) < (s.length : Int) then (rd s ((i + 1 : Nat) : Int)).toNat else fc.length
def forGo (cs : List S34) (fc s : List Int) : Nat → Nat → List S49 → List S49
  | 0, _, p => p
  | d + 1, i, p => forGo cs fc s d (i + 1) (forStep cs fc (rd s (i : Int)).toNat (nextAt fc s i) p)
def forP (cs : List S34) (fc s : List Int) : List S49 := forGo cs fc s s.length 0 []
theorem pickGo_in (cs : List S34) (fc : List Int) (p : List S49) (r nx : Nat) : ∀ d c : Nat, (pickGo cs fc p r nx d c).length ≤ d ∧ ∀ v ∈ pickGo cs fc p r nx d c, (c : Int) ≤ v ∧ v < ((c + d : Nat) : Int)
  | 0, c => by simp [pickGo]
  | d + 1, c => by
    obtain ⟨h1, h2⟩ := pickGo_in cs fc p r nx d (c + 1)
    simp only [pickGo]
    split
    · refine ⟨by simp only [List.length_cons]; omega, ?_⟩
      intro v hv
      rcases List.mem_cons.mp hv with h | h
      · rw [h]; omega
      · have := h2 v h; omega
    · exact ⟨by omega, fun v hv => by have := h2 v hv; omega⟩
theorem pick_in (cs : List S34) (fc : List Int) (p : List S49) (r nx : Nat) : (pick cs fc p r nx).length ≤ cs.length ∧ ∀ v ∈ pick cs fc p r nx, 0 ≤ v ∧ v < (cs.length : Int) := by
  obtain ⟨h1, h2⟩ := pickGo_in cs fc p r nx cs.length 0
  refine ⟨h1, ?_⟩
  intro v hv
  have := h2 v hv
  omega
theorem forStep_in {cs : List S34} (fc : List Int) {p : List S49} (r nx : Nat) (hc : cs.length ≤ 5) {i : Nat} (hi : i < 1048576) (hl : p.length ≤ i) (hp : planIn cs.length p) : (forStep cs fc r nx p).length ≤ i + 1 ∧ planIn cs.length (forStep cs fc r nx p) := by
  obtain ⟨h1, h2⟩ := pick_in cs fc p r nx
  unfold forStep
  split
  · refine ⟨by simp only [List.length_append, List.length_cons, List.length_nil]; omega, ⟨by simp only [List.length_append, List.length_cons, List.length_nil]; omega, ?_⟩, ?_⟩
    · intro s hs
      rcases List.mem_append.mp hs with h | h
      · exact hp.1.2 s h
      · rw [List.mem_singleton.mp h]
        dsimp only
        omega
    · intro s hs
      rcases List.mem_append.mp hs with h | h
      · exact hp.2 s h
      · rw [List.mem_singleton.mp h]
        exact h2
  · exact ⟨by omega, hp⟩
theorem forGo_in {cs : List S34} (fc s : List Int) (hc : cs.length ≤ 5) : ∀ (d i : Nat) (p : List S49), i + d ≤ 1048576 → p.length ≤ i → planIn cs.length p → (forGo cs fc s d i p).length ≤ i + d ∧ planIn cs.length (forGo cs fc s d i p)
  | 0, i, p, _, hl, hp => ⟨hl, hp⟩
  | d + 1, i, p, h, hl, hp => by
    obtain ⟨h1, h2⟩ := forStep_in fc (rd s (i : Int)).toNat (nextAt fc s i) hc (show i < 1048576 by omega) hl hp
    obtain ⟨h3, h4⟩ := forGo_in fc s hc d (i + 1) _ (by omega) h1 h2
    simp only [forGo]
    exact ⟨by omega, h4⟩
theorem planIn_nil (n : Nat) : planIn n ([] : List S49) := ⟨⟨by simp, by simp⟩, by simp⟩
theorem forP_in {cs : List S34} (fc s : List Int) (hc : cs.length ≤ 5) (hs : s.length ≤ 1048576) : (forP cs fc s).length ≤ s.length ∧ planIn cs.length (forP cs fc s) := by
  have := forGo_in fc s hc s.length 0 [] (by omega) (by simp) (planIn_nil _)
  simpa [forP] using this

end Go.Proofs.Ytfcadpkhmkjibaa.P
/- The plan for stops, as the program makes it. -/
namespace Go.Proofs.Ytfcadpkhmkjibaa.P
open Go.RowKit Go.Proofs.Ytfcadpkhmkjibaa.P Go.Proofs.YtfcadpkhmkjibaaW.PrintWords Go.Proofs.YtfcadpkhmkjibaaW.PrintLast Go.Proofs.YtfcadpkhmkjibaaW.PrintMore
set_option linter.unusedVariables false
set_option linter.unusedSimpArgs false
theorem implFor_l1 (cs : List S34) (fc st : List Int) (x y : Int) (hh : hdOk cs fc st x y = true) (s : List Int) (p : List S49) (r nx : Nat) (hr : r ≤ fc.length) (i : Int) (out : Option (List S49 × Bool)) (B : Nat) (hB : 100 ≤ B)
    (hcont : ∀ k, B ≤ k → (if ((pick cs fc p r nx).length : Int) > 0 then (if p.length < 4398046511104 then impl_Head_planFor.l0 k s (p ++ [(⟨(r : Int), pick cs fc p r nx⟩ : S49)]) s s.length (wrap64 (i + 1)) cs fc st x y else none) else impl_Head_planFor.l0 k s p s s.length (wrap64 (i + 1)) cs fc st x y) = out) :
    ∀ (d k c : Nat) (acc : List Int), c + d = cs.length → B + d < k → acc.length ≤ c → acc ++ pickGo cs fc p r nx d c = pick cs fc p r nx → impl_Head_planFor.l1 k s p r nx s s.length i (wl cs.length (fun c => wearP cs fc p c r)) ((wl cs.length (fun c => wearP cs fc p c r)).length : Int) c cs fc st x y r acc = out := by
  intro d
  have hin := hdOk_in hh
  induction d with
  | zero =>
    intro k c acc hc hk hl ha
    obtain ⟨k, rfl⟩ : ∃ m, k = m + 1 := ⟨k - 1, by omega⟩
    simp only [impl_Head_planFor.l1]
    rw [if_neg (by rw [wl_len]; omega)]
    simp only [pickGo, List.append_nil] at ha
    rw [ha]
    exact hcont k (by omega)
  | succ d ih =>
    intro k c acc hc hk hl ha
    obtain ⟨k, rfl⟩ : ∃ m, k = m + 1 := ⟨k - 1, by omega⟩
    simp only [pickGo] at ha
    simp only [impl_Head_planFor.l1]
    rw [if_pos (by rw [wl_len]; omega), if_pos (by omega), if_pos (by rw [wl_len]; omega), wl_rd _ _ c (by omega), implReach_is k cs fc st x y c r _ (by omega) (by omega) hr (by omega), bind_some_, w64s c (by omega)]
    by_cases h : reachOf cs fc c r (wearP cs fc p c r) < nx
    · rw [if_pos h] at ha
      rw [if_pos (by omega), if_pos (by omega)]
      refine ih k (c + 1) _ (by omega) (by omega) (by simp only [List.length_append, List.length_cons, List.length_nil]; omega) ?_
      rw [List.append_assoc, List.singleton_append]
      exact ha
    · rw [if_neg h] at ha
      rw [if_neg (by omega)]
      exact ih k (c + 1) acc (by omega) (by omega) (by omega) ha
theorem implFor_l0 (wearK : Nat) (hW : wearOk wearK) (cs : List S34) (fc st : List Int) (x y : Int) (hh : hdOk cs fc st x y = true) (s : List Int) (hs : s.length ≤ 1048576) (hz : ∀ j : Nat, j < s.length → 0 ≤ rd s (j : Int) ∧ rd s (j : Int) < fc.length) :
    ∀ (d k i : Nat) (p : List S49), i + d = s.length → wearK + 20000 + 100 * d < k → p.length ≤ i → planIn cs.length p → impl_Head_planFor.l0 k s p s s.length i cs fc st x y = some (forGo cs fc s d i p, (failP cs fc (forGo cs fc s d i p)).isNone) := by
  intro d
  have hin := hdOk_in hh
  induction d with
  | zero =>
    intro k i p hi hk hl hp
    obtain ⟨k, rfl⟩ : ∃ m, k = m + 1 := ⟨k - 1, by omega⟩
    simp only [impl_Head_planFor.l0, forGo]
    rw [if_neg (by omega), implFail_is wearK hW k cs fc st x y hh p hp (by omega), bind_some_]
    cases failP cs fc p with
    | none => simp
    | some q =>
      obtain ⟨c, n⟩ := q
      simp
  | succ d ih =>
    intro k i p hi hk hl hp
    obtain ⟨k, rfl⟩ : ∃ m, k = m + 1 + 1 := ⟨k - 2, by omega⟩
    have g1 : (i : Int) < (s.length : Int) := by omega
    have g2 : (0 : Int) ≤ (i : Int) := by omega
    have g3 : i < 9223372036854775807 := by omega
    have g4 : (0 : Int) ≤ ((i + 1 : Nat) : Int) := by omega
    have hj := hz i (by omega)
    obtain ⟨r, hr⟩ : ∃ r : Nat, rd s (i : Int) = r := ⟨(rd s (i : Int)).toNat, by omega⟩
    rw [hr] at hj
    obtain ⟨h1, h2⟩ := forStep_in fc r (nextAt fc s i) hin.1 (show i < 1048576 by omega) hl hp
    have hgo : ∀ nx : Nat, nx = nextAt fc s i → impl_Head_planFor.j1 (k + 1) s p r nx s s.length i cs fc st x y = some (forGo cs fc s d (i + 1) (forStep cs fc r (nextAt fc s i) p), (failP cs fc (forGo cs fc s d (i + 1) (forStep cs fc r (nextAt fc s i) p))).isNone) := by
      intro nx hnx
      simp only [impl_Head_planFor.j1]
      rw [implWorn_is wearK hW k cs fc st x y hh p hp r (by omega) (by omega), bind_some_]
      refine implFor_l1 cs fc st x y hh s p r nx (by omega) i _ (wearK + 20000 + 100 * d + 10) (by omega) ?_ cs.length k 0 [] (by omega) (by omega) (by simp) rfl
      intro k2 hk2
      rw [w64s i (by omega), hnx]
      have hz2 := ih k2 (i + 1) _ (by omega) (by omega) h1 h2
      unfold forStep at hz2 ⊢
      split
      · rename_i hpos
        rw [if_pos hpos] at hz2
        rw [if_pos (by omega)]
        exact hz2
      · rename_i hpos
        rw [if_neg hpos] at hz2
        exact hz2
    have e1 : wrap64 ((i : Int) + 1) = ((i + 1 : Nat) : Int) := w64s i g3
    simp only [impl_Head_planFor.l0, forGo]
    rw [if_pos g1, if_pos g2, if_pos g1, e1, hr, Int.toNat_natCast]
    by_cases h : ((i + 1 : Nat) : Int) < (s.length : Int)
    · have hj2 := hz (i + 1) (by omega)
      have e2 : rd s ((i + 1 : Nat) : Int) = ((rd s ((i + 1 : Nat) : Int)).toNat : Int) := (Int.toNat_of_nonneg hj2.1).symm
      rw [if_pos h, if_pos g4, e2]
      refine hgo _ ?_
      unfold nextAt
      rw [if_pos h]
    · rw [if_neg h]
      refine hgo _ ?_
      unfold nextAt
      rw [if_neg h]
theorem implFor_is (wearK : Nat) (hW : wearOk wearK) (k : Nat) (cs : List S34) (fc st : List Int) (x y : Int) (hh : hdOk cs fc st x y = true) (s : List Int) (hs : s.length ≤ 1048576) (hz : ∀ j : Nat, j < s.length → 0 ≤ rd s (j : Int) ∧ rd s (j : Int) < fc.length) (hk : wearK + 200000000 ≤ k) : impl_Head_planFor.f k cs fc st x y s = some (forP cs fc s, (failP cs fc (forP cs fc s)).isNone) := by
  unfold impl_Head_planFor.f forP
  exact implFor_l0 wearK hW cs fc st x y hh s hs hz s.length k 0 [] (by omega) (by omega) (by simp) (planIn_nil _)

end Go.Proofs.Ytfcadpkhmkjibaa.P
/- A number lies in a range, as the reference asks it. -/
namespace Go.Proofs.Ytfcadpkhmkjibaa.P
open Go.RowKit Go.Proofs.Ytfcadpkhmkjibaa.P Go.Proofs.YtfcadpkhmkjibaaW.PrintWords Go.Proofs.YtfcadpkhmkjibaaW.PrintLast Go.Proofs.YtfcadpkhmkjibaaW.PrintMore
set_option linter.unusedVariables false
set_option linter.unusedSimpArgs false
theorem in_is (a b c : Int) : spec_l00In.f a b c = some (decide (b ≤ a ∧ a ≤ c)) := by
  unfold spec_l00In.f
  by_cases h : b ≤ a <;> simp [h]

end Go.Proofs.Ytfcadpkhmkjibaa.P
/- Numbers in a range that rise, as the reference asks it. -/
namespace Go.Proofs.Ytfcadpkhmkjibaa.P
open Go.RowKit Go.Proofs.Ytfcadpkhmkjibaa.P Go.Proofs.YtfcadpkhmkjibaaW.PrintWords Go.Proofs.YtfcadpkhmkjibaaW.PrintLast Go.Proofs.YtfcadpkhmkjibaaW.PrintMore
set_option linter.unusedVariables false
set_option linter.unusedSimpArgs false
theorem specRises_loop (l : List Int) (lo hi : Int) (hb : l.length ≤ 9223372036854775806) : ∀ (d k i : Nat), i + d = l.length → d < k → spec_l00Rises.l0 k l lo hi i = some (upTo (riseOk l lo hi) d i) := by
  intro d
  induction d with
  | zero =>
    intro k i hi' hk
    obtain ⟨k, rfl⟩ : ∃ m, k = m + 1 := ⟨k - 1, by omega⟩
    simp only [spec_l00Rises.l0]
    rw [if_neg (by omega)]
    rfl
  | succ d ih =>
    intro k i hi' hk
    obtain ⟨k, rfl⟩ : ∃ m, k = m + 1 := ⟨k - 1, by omega⟩
    have hz := ih k (i + 1) (by omega) (by omega)
    simp only [spec_l00Rises.l0, in_is, bind_some_, upTo, riseOk]
    rw [if_pos (by omega), if_pos (by omega), w64s i (by omega), hz]
    by_cases h : i = 0
    · rw [if_neg (show ¬ (i : Int) > 0 by omega), ite_tt, decide_eq_true h, Bool.true_or, Bool.and_true]
    · have e : wrap64 ((i : Int) - 1) = ((i - 1 : Nat) : Int) := by rw [w64 _ (by omega) (by omega)]; omega
      rw [if_pos (show (i : Int) > 0 by omega), e, if_pos (show (0 : Int) ≤ ((i - 1 : Nat) : Int) by omega), if_pos (show ((i - 1 : Nat) : Int) < (l.length : Int) by omega), ite_ff, ite_tt, not_ge_dec, decide_eq_false h, Bool.false_or, Bool.and_assoc]
theorem specRises_is (k : Nat) (l : List Int) (lo hi : Int) (hb : l.length ≤ 9223372036854775806) (hk : l.length < k) : spec_l00Rises.f k l lo hi = some (rises l lo hi) := by
  unfold spec_l00Rises.f rises
  exact specRises_loop l lo hi hb l.length k 0 (by omega) hk

end Go.Proofs.Ytfcadpkhmkjibaa.P
/- What the reference asks of a head. -/
namespace Go.Proofs.Ytfcadpkhmkjibaa.P
open Go.RowKit Go.Proofs.Ytfcadpkhmkjibaa.P Go.Proofs.YtfcadpkhmkjibaaW.PrintWords Go.Proofs.YtfcadpkhmkjibaaW.PrintLast Go.Proofs.YtfcadpkhmkjibaaW.PrintMore
set_option linter.unusedVariables false
set_option linter.unusedSimpArgs false
theorem specHead_l1 (cs : List S34) (fc st : List Int) (x y : Int) (hb : fc.length ≤ 9223372036854775806) : ∀ (d k i : Nat), i + d = fc.length → d < k → spec_l08Is.l1 k i cs fc st x y = some (impl_areWithin.all 0 100 (fc.drop i) && (decide (0 ≤ x ∧ x ≤ 10000) && decide (0 ≤ y ∧ y ≤ 10000))) := by
  intro d
  induction d with
  | zero =>
    intro k i hi' hk
    obtain ⟨k, rfl⟩ : ∃ m, k = m + 1 := ⟨k - 1, by omega⟩
    simp only [spec_l08Is.l1, in_is, bind_some_]
    rw [if_neg (by omega), List.drop_of_length_le (by omega), ite_tt]
    rfl
  | succ d ih =>
    intro k i hi' hk
    obtain ⟨k, rfl⟩ : ∃ m, k = m + 1 := ⟨k - 1, by omega⟩
    have hz := ih k (i + 1) (by omega) (by omega)
    rw [drop_at fc i (by omega)]
    simp only [spec_l08Is.l1, in_is, bind_some_]
    rw [if_pos (by omega), if_pos (by omega), w64s i (by omega), hz, ite_tt]
    simp only [impl_areWithin.all, List.all_cons, Bool.and_assoc]
theorem specHead_l0 (cs : List S34) (fc st : List Int) (x y : Int) (hc : cs.length ≤ 9223372036854775806) (hb : fc.length ≤ 9223372036854775806) : ∀ (d k i : Nat), i + d = cs.length → d + fc.length + 1 < k → spec_l08Is.l0 k i cs fc st x y = some (upTo (cuOk cs) d i && (impl_areWithin.all 0 100 fc && (decide (0 ≤ x ∧ x ≤ 10000) && decide (0 ≤ y ∧ y ≤ 10000)))) := by
  intro d
  induction d with
  | zero =>
    intro k i hi' hk
    obtain ⟨k, rfl⟩ : ∃ m, k = m + 1 := ⟨k - 1, by omega⟩
    have h1 := specHead_l1 cs fc st x y hb fc.length k 0 (by omega) (by omega)
    rw [List.drop_zero] at h1
    simp only [spec_l08Is.l0]
    rw [if_neg (by omega)]
    exact h1
  | succ d ih =>
    intro k i hi' hk
    obtain ⟨k, rfl⟩ : ∃ m, k = m + 1 := ⟨k - 1, by omega⟩
    have hz := ih k (i + 1) (by omega) (by omega)
    simp only [spec_l08Is.l0, in_is, bind_some_]
    rw [if_pos (by omega), if_pos (by omega), w64s i (by omega), hz, ite_tt, ite_tt]
    simp only [upTo, cuOk, Bool.and_assoc]
theorem specIs_is (k : Nat) (cs : List S34) (fc st : List Int) (x y : Int) (hc : cs.length ≤ 1048576) (hb : fc.length ≤ 1048576) (hs : st.length ≤ 1048576) (hk : cs.length + fc.length + st.length + 3 < k) : spec_l08Is.f k cs fc st x y = some (hdOk cs fc st x y) := by
  obtain ⟨k, rfl⟩ : ∃ m, k = m + 1 := ⟨k - 1, by omega⟩
  have h0 := specHead_l0 cs fc st x y (by omega) (by omega) cs.length k 0 (by omega) (by omega)
  rw [show ((0 : Nat) : Int) = 0 by rfl] at h0
  unfold spec_l08Is.f hdOk
  rw [in_is, bind_some_, specRises_is (k + 1) st _ _ (by omega) (by omega), bind_some_]
  simp only [spec_l08Is.j0, h0, if_true]
  generalize upTo (cuOk cs) cs.length 0 = b1
  generalize impl_areWithin.all 0 100 fc = b2
  generalize rises st 0 (wrap64 ((fc.length : Int) - 1)) = b3
  by_cases h1 : (1 ≤ (cs.length : Int) ∧ (cs.length : Int) ≤ 5)
  · by_cases h2 : (fc.length : Int) > 60
    · rw [if_pos (decide_eq_true h1), if_pos h2, decide_eq_false (show ¬ (fc.length : Int) ≤ 60 by omega)]
      simp
    · rw [if_pos (decide_eq_true h1), if_neg h2, decide_eq_true (show (fc.length : Int) ≤ 60 by omega), decide_eq_true h1]
      by_cases h3 : (st.length : Int) > 8
      · rw [if_pos h3, decide_eq_false (show ¬ (st.length : Int) ≤ 8 by omega)]
        simp
      · rw [if_neg h3, decide_eq_true (show (st.length : Int) ≤ 8 by omega)]
        cases b3 <;> simp
  · rw [if_neg (by simpa using h1), decide_eq_false h1]
    simp

end Go.Proofs.Ytfcadpkhmkjibaa.P
/- How far a cutter lasts, as the reference reckons it. -/
namespace Go.Proofs.Ytfcadpkhmkjibaa.P
open Go.RowKit Go.Proofs.Ytfcadpkhmkjibaa.P Go.Proofs.YtfcadpkhmkjibaaW.PrintWords Go.Proofs.YtfcadpkhmkjibaaW.PrintLast Go.Proofs.YtfcadpkhmkjibaaW.PrintMore
set_option linter.unusedVariables false
set_option linter.unusedSimpArgs false
theorem specReach_l0 (cs : List S34) (fc st : List Int) (x y : Int) (a : Nat) (ha : a < cs.length) (hb : fc.length ≤ 9223372036854775806) (b : Int) : ∀ (d k i : Nat) (s : Int), i + d = fc.length → d < k → spec_l08Range.l0 k a b s i cs fc st x y = some (wrap64 ((reachGo (rd_T34 cs (a : Int)).f0 (rd_T34 cs (a : Int)).f1 fc d i s : Nat) - b)) := by
  intro d
  induction d with
  | zero =>
    intro k i s hi hk
    obtain ⟨k, rfl⟩ : ∃ m, k = m + 1 := ⟨k - 1, by omega⟩
    simp only [spec_l08Range.l0, reachGo]
    rw [if_neg (by omega)]
  | succ d ih =>
    intro k i s hi hk
    obtain ⟨k, rfl⟩ : ∃ m, k = m + 1 := ⟨k - 1, by omega⟩
    simp only [spec_l08Range.l0, reachGo]
    rw [if_pos (by omega), if_pos (by omega), if_pos (by omega), if_pos (by omega), w64s i (by omega), ih k (i + 1) _ (by omega) (by omega)]
    split <;> rfl
theorem specReach_is (k : Nat) (cs : List S34) (fc st : List Int) (x y : Int) (a b : Nat) (s : Int) (ha : a < cs.length) (hb : fc.length ≤ 9223372036854775806) (hbl : b ≤ fc.length) (hk : fc.length < k) : spec_l08Range.f k cs fc st x y a b s = some (wrap64 ((reachOf cs fc a b s : Nat) - (b : Int))) := by
  unfold spec_l08Range.f reachOf
  exact specReach_l0 cs fc st x y a ha hb b (fc.length - b) k b s (by omega) (by omega)

end Go.Proofs.Ytfcadpkhmkjibaa.P
/- How worn the cutters are, as the reference reckons it. -/
namespace Go.Proofs.Ytfcadpkhmkjibaa.P
open Go.RowKit Go.Proofs.Ytfcadpkhmkjibaa.P Go.Proofs.YtfcadpkhmkjibaaW.PrintWords Go.Proofs.YtfcadpkhmkjibaaW.PrintLast Go.Proofs.YtfcadpkhmkjibaaW.PrintMore
set_option linter.unusedVariables false
set_option linter.unusedSimpArgs false
theorem specChanges_l0 (p : List S49) (c n : Int) (hp : shortS p) : ∀ (d k i : Nat), i + d = p.length → d + 1048577 < k → spec_l08Changes.l0 k p c n i = some (chg (p.drop i) c n) := by
  intro d
  have hb := hp.1
  induction d with
  | zero =>
    intro k i hi hk
    obtain ⟨k, rfl⟩ : ∃ m, k = m + 1 := ⟨k - 1, by omega⟩
    simp only [spec_l08Changes.l0]
    rw [if_neg (by omega), List.drop_of_length_le (by omega)]
    rfl
  | succ d ih =>
    intro k i hi hk
    obtain ⟨k, rfl⟩ : ∃ m, k = m + 1 := ⟨k - 1, by omega⟩
    have hlt : i < p.length := by omega
    have hs := shortS_at hp i hlt
    have hd : p.drop i = rd_T49 p (i : Int) :: p.drop (i + 1) := by rw [rdStop_at p i hlt, List.drop_eq_getElem_cons hlt]
    have hz := ih k (i + 1) (by omega) (by omega)
    simp only [spec_l08Changes.l0]
    rw [if_pos (by omega), if_pos (by omega), specHas_is k _ _ (by omega) (by omega), bind_some_, w64s i (by omega), hz, hd]
    simp only [chg, List.any_cons]
    by_cases h1 : (rd_T49 p (i : Int)).f0 = n
    · rw [if_pos h1]
      by_cases h2 : c ∈ (rd_T49 p (i : Int)).f1
      · simp [h1, h2]
      · simp [h2]
    · rw [if_neg h1]
      simp [h1]
theorem specChanges_is (k : Nat) (p : List S49) (c n : Int) (hp : shortS p) (hk : p.length + 1048577 < k) : spec_l08Changes.f k p c n = some (chg p c n) := by
  unfold spec_l08Changes.f
  have := specChanges_l0 p c n hp p.length k 0 (by omega) hk
  simpa using this
theorem specWorn_l0 (cs : List S34) (fc st : List Int) (x y : Int) (hh : hdOk cs fc st x y = true) (p : List S49) (hp : shortS p) (c R : Nat) (hc : c < cs.length) (hR : R ≤ fc.length) : ∀ (e k n : Nat), n + e = R → e + 3000000 < k → spec_l08Worn.l0 k p c R (wearIn cs fc p c n) n cs fc st x y = some (wearP cs fc p c R) := by
  intro e
  have hin := hdOk_in hh
  have hb := hp.1
  induction e with
  | zero =>
    intro k n hn hk
    have hn2 : n = R := by omega
    subst hn2
    obtain ⟨k, rfl⟩ : ∃ m, k = m + 1 + 1 := ⟨k - 2, by omega⟩
    simp only [spec_l08Worn.l0]
    rw [if_pos (Int.le_refl _), specChanges_is _ p _ _ hp (by omega), bind_some_, w64s n (by omega), wearP_eq]
    have h1 : ¬ ((n + 1 : Nat) : Int) ≤ (n : Int) := by omega
    simp only [if_neg h1, if_neg (show ¬ (n : Int) < (n : Int) by omega)]
    split <;> rfl
  | succ e ih =>
    intro k n hn hk
    obtain ⟨k, rfl⟩ : ∃ m, k = m + 1 := ⟨k - 1, by omega⟩
    have b1 := wearP_in p hh c hc n (by omega)
    have b2 := step_in hh c n hc (by omega)
    have e1 : wrap64 ((rd_T34 cs (c : Int)).f0 * rd fc (n : Int)) = wearStep cs fc c n := by
      unfold wearStep at b2 ⊢
      rw [w64 _ (by omega) (by omega)]
    have hz := ih k (n + 1) (by omega) (by omega)
    have e2 : wearIn cs fc p c (n + 1) = wearP cs fc p c n + wearStep cs fc c n := rfl
    rw [e2] at hz
    have e3 := wearP_eq cs fc p c n
    simp only [spec_l08Worn.l0]
    rw [if_pos (by omega), specChanges_is _ p _ _ hp (by omega), bind_some_, w64s n (by omega), e1]
    by_cases h : chg p c (n : Int) = true
    · rw [if_pos h] at e3
      rw [if_pos h, if_pos (by omega), if_pos (by omega), if_pos (by omega), if_pos (by omega), if_pos (by omega), w64 (0 + wearStep cs fc c n) (by omega) (by omega)]
      rw [e3] at hz
      exact hz
    · rw [if_neg h] at e3
      rw [if_neg h, if_pos (by omega), if_pos (by omega), if_pos (by omega), if_pos (by omega), if_pos (by omega), ← e3, w64 (wearP cs fc p c n + wearStep cs fc c n) (by omega) (by omega)]
      exact hz
theorem specWorn_is (k : Nat) (cs : List S34) (fc st : List Int) (x y : Int) (hh : hdOk cs fc st x y = true) (p : List S49) (hp : shortS p) (c R : Nat) (hc : c < cs.length) (hR : R ≤ fc.length) (hk : 4000000 ≤ k) : spec_l08Worn.f k cs fc st x y p c R = some (wearP cs fc p c R) := by
  have hin := hdOk_in hh
  unfold spec_l08Worn.f
  exact specWorn_l0 cs fc st x y hh p hp c R hc hR R k 0 (by omega) (by omega)
theorem specFail_l1 (cs : List S34) (fc st : List Int) (x y : Int) (hh : hdOk cs fc st x y = true) (p : List S49) (hp : shortS p) (n : Nat) (hn : n < fc.length) (out : Option (Int × Int × Bool)) (B : Nat) (hB : 5000000 ≤ B)
    (hcont : failC cs fc p n cs.length 0 = none → ∀ k, B ≤ k → spec_l08Failure.l0 k p ((n + 1 : Nat) : Int) cs fc st x y = out) (hfound : ∀ c, failC cs fc p n cs.length 0 = some c → out = some ((c : Int), (n : Int), true)) : ∀ (d k j : Nat), j + d = cs.length → B + d < k → failC cs fc p n d j = failC cs fc p n cs.length 0 → spec_l08Failure.l1 k p n j cs fc st x y = out := by
  intro d
  have hin := hdOk_in hh
  induction d with
  | zero =>
    intro k j hj hk he
    obtain ⟨k, rfl⟩ : ∃ m, k = m + 1 := ⟨k - 1, by omega⟩
    simp only [spec_l08Failure.l1]
    rw [if_neg (by omega), w64s n (by omega)]
    exact hcont (by rw [← he]; rfl) k (by omega)
  | succ d ih =>
    intro k j hj hk he
    obtain ⟨k, rfl⟩ : ∃ m, k = m + 1 := ⟨k - 1, by omega⟩
    have h1 := wearP_in p hh j (by omega) n (by omega)
    have h2 := step_in hh j n (by omega) hn
    have e1 : wrap64 ((rd_T34 cs (j : Int)).f0 * rd fc (n : Int)) = wearStep cs fc j n := by
      unfold wearStep at h2 ⊢
      rw [w64 _ (by omega) (by omega)]
    simp only [spec_l08Failure.l1]
    rw [if_pos (by omega), specWorn_is k cs fc st x y hh p hp j n (by omega) (by omega) (by omega), bind_some_, if_pos (by omega), if_pos (by omega), if_pos (by omega), e1, w64 (wearP cs fc p j n + wearStep cs fc j n) (by omega) (by omega), w64s j (by omega)]
    simp only [failC] at he
    by_cases h3 : wearP cs fc p j n + wearStep cs fc j n > (rd_T34 cs (j : Int)).f1
    · rw [if_pos h3] at he ⊢
      exact (hfound j he.symm).symm
    · rw [if_neg h3] at he ⊢
      exact ih k (j + 1) (by omega) (by omega) he
theorem specFail_l0 (cs : List S34) (fc st : List Int) (x y : Int) (hh : hdOk cs fc st x y = true) (p : List S49) (hp : shortS p) : ∀ (d k n : Nat), n + d = fc.length → 5000000 + 100 * d < k → spec_l08Failure.l0 k p n cs fc st x y = some (match failN cs fc p d n with | some (c, n) => ((c : Int), (n : Int), true) | none => (0, 0, false)) := by
  intro d
  have hin := hdOk_in hh
  induction d with
  | zero =>
    intro k n hn hk
    obtain ⟨k, rfl⟩ : ∃ m, k = m + 1 := ⟨k - 1, by omega⟩
    simp only [spec_l08Failure.l0, failN]
    rw [if_neg (by omega)]
  | succ d ih =>
    intro k n hn hk
    obtain ⟨k, rfl⟩ : ∃ m, k = m + 1 := ⟨k - 1, by omega⟩
    simp only [spec_l08Failure.l0, failN]
    rw [if_pos (by omega)]
    refine specFail_l1 cs fc st x y hh p hp n (by omega) _ (5000000 + 100 * d + 1) (by omega) ?_ ?_ cs.length k 0 (by omega) (by omega) rfl
    · intro h1 k2 hk2
      rw [h1]
      exact ih k2 (n + 1) (by omega) (by omega)
    · intro c hc
      rw [hc]
theorem specFail_is (k : Nat) (cs : List S34) (fc st : List Int) (x y : Int) (hh : hdOk cs fc st x y = true) (p : List S49) (hp : shortS p) (hk : 6000000 ≤ k) : spec_l08Failure.f k cs fc st x y p = some (match failP cs fc p with | some (c, n) => ((c : Int), (n : Int), true) | none => (0, 0, false)) := by
  have hin := hdOk_in hh
  unfold spec_l08Failure.f failP
  exact specFail_l0 cs fc st x y hh p hp fc.length k 0 (by omega) (by omega)

end Go.Proofs.Ytfcadpkhmkjibaa.P
/- The plan for stops, as the reference makes it. -/
namespace Go.Proofs.Ytfcadpkhmkjibaa.P
open Go.RowKit Go.Proofs.Ytfcadpkhmkjibaa.P Go.Proofs.YtfcadpkhmkjibaaW.PrintWords Go.Proofs.YtfcadpkhmkjibaaW.PrintLast Go.Proofs.YtfcadpkhmkjibaaW.PrintMore
set_option linter.unusedVariables false
set_option linter.unusedSimpArgs false
theorem specFor_l1 (cs : List S34) (fc st : List Int) (x y : Int) (hh : hdOk cs fc st x y = true) (s : List Int) (p : List S49) (hp : shortS p) (i r nx : Nat) (hi : i < s.length) (hsr : rd s (i : Int) = r) (hr : r ≤ fc.length) (out : Option (List S49)) (B : Nat) (hB : 5000000 ≤ B)
    (hcont : ∀ k, B ≤ k → (if ((pick cs fc p r nx).length : Int) > 0 then (if p.length < 4398046511104 then spec_l08For.l0 k s (p ++ [(⟨(r : Int), pick cs fc p r nx⟩ : S49)]) (wrap64 ((i : Int) + 1)) cs fc st x y else none) else spec_l08For.l0 k s p (wrap64 ((i : Int) + 1)) cs fc st x y) = out) :
    ∀ (d k c : Nat) (acc : List Int), c + d = cs.length → B + d < k → acc.length ≤ c → acc ++ pickGo cs fc p r nx d c = pick cs fc p r nx → spec_l08For.l1 k s p i nx acc c cs fc st x y = out := by
  intro d
  have hin := hdOk_in hh
  induction d with
  | zero =>
    intro k c acc hc hk hl ha
    obtain ⟨k, rfl⟩ : ∃ m, k = m + 1 := ⟨k - 1, by omega⟩
    simp only [spec_l08For.l1]
    rw [if_neg (by omega), if_pos (show (0 : Int) ≤ (i : Int) by omega), if_pos (show (i : Int) < (s.length : Int) by omega), hsr]
    simp only [pickGo, List.append_nil] at ha
    rw [ha]
    exact hcont k (by omega)
  | succ d ih =>
    intro k c acc hc hk hl ha
    obtain ⟨k, rfl⟩ : ∃ m, k = m + 1 := ⟨k - 1, by omega⟩
    have hre := reachOf_in cs fc c r (wearP cs fc p c r) hr
    have e1 : wrap64 ((r : Int) + wrap64 ((reachOf cs fc c r (wearP cs fc p c r) : Nat) - (r : Int))) = ((reachOf cs fc c r (wearP cs fc p c r) : Nat) : Int) := by
      rw [w64 ((reachOf cs fc c r (wearP cs fc p c r) : Nat) - (r : Int)) (by omega) (by omega), w64 _ (by omega) (by omega)]
      omega
    simp only [pickGo] at ha
    simp only [spec_l08For.l1]
    rw [if_pos (by omega), if_pos (show (0 : Int) ≤ (i : Int) by omega), if_pos (show (i : Int) < (s.length : Int) by omega), hsr, specWorn_is k cs fc st x y hh p hp c r (by omega) hr (by omega), bind_some_, specReach_is k cs fc st x y c r _ (by omega) (by omega) hr (by omega), bind_some_, e1, w64s c (by omega)]
    by_cases h : reachOf cs fc c r (wearP cs fc p c r) < nx
    · rw [if_pos h] at ha
      rw [if_pos (by omega), if_pos (by omega)]
      refine ih k (c + 1) _ (by omega) (by omega) (by simp only [List.length_append, List.length_cons, List.length_nil]; omega) ?_
      rw [List.append_assoc, List.singleton_append]
      exact ha
    · rw [if_neg h] at ha
      rw [if_neg (by omega)]
      exact ih k (c + 1) acc (by omega) (by omega) (by omega) ha
theorem specFor_l0 (cs : List S34) (fc st : List Int) (x y : Int) (hh : hdOk cs fc st x y = true) (s : List Int) (hs : s.length ≤ 1048576) (hz : ∀ j : Nat, j < s.length → 0 ≤ rd s (j : Int) ∧ rd s (j : Int) < fc.length) :
    ∀ (d k i : Nat) (p : List S49), i + d = s.length → 6000000 + 100 * d < k → p.length ≤ i → planIn cs.length p → spec_l08For.l0 k s p i cs fc st x y = some (forGo cs fc s d i p) := by
  intro d
  have hin := hdOk_in hh
  induction d with
  | zero =>
    intro k i p hi hk hl hp
    obtain ⟨k, rfl⟩ : ∃ m, k = m + 1 := ⟨k - 1, by omega⟩
    simp only [spec_l08For.l0, forGo]
    rw [if_neg (by omega)]
  | succ d ih =>
    intro k i p hi hk hl hp
    obtain ⟨k, rfl⟩ : ∃ m, k = m + 1 + 1 := ⟨k - 2, by omega⟩
    have g1 : (i : Int) < (s.length : Int) := by omega
    have g2 : (0 : Int) ≤ (i : Int) := by omega
    have g3 : i < 9223372036854775807 := by omega
    have g4 : (0 : Int) ≤ ((i + 1 : Nat) : Int) := by omega
    have hj := hz i (by omega)
    obtain ⟨r, hr⟩ : ∃ r : Nat, rd s (i : Int) = r := ⟨(rd s (i : Int)).toNat, by omega⟩
    rw [hr] at hj
    obtain ⟨h1, h2⟩ := forStep_in fc r (nextAt fc s i) hin.1 (show i < 1048576 by omega) hl hp
    have hgo : ∀ nx : Nat, nx = nextAt fc s i → spec_l08For.j1 (k + 1) s p i nx cs fc st x y = some (forGo cs fc s d (i + 1) (forStep cs fc r (nextAt fc s i) p)) := by
      intro nx hnx
      simp only [spec_l08For.j1]
      refine specFor_l1 cs fc st x y hh s p hp.1 i r nx (by omega) hr (by omega) _ (6000000 + 100 * d + 10) (by omega) ?_ cs.length k 0 [] (by omega) (by omega) (by simp) rfl
      intro k2 hk2
      rw [w64s i (by omega), hnx]
      have hz2 := ih k2 (i + 1) _ (by omega) (by omega) h1 h2
      unfold forStep at hz2 ⊢
      split
      · rename_i hpos
        rw [if_pos hpos] at hz2
        rw [if_pos (by omega)]
        exact hz2
      · rename_i hpos
        rw [if_neg hpos] at hz2
        exact hz2
    have e1 : wrap64 ((i : Int) + 1) = ((i + 1 : Nat) : Int) := w64s i g3
    simp only [spec_l08For.l0, forGo]
    rw [if_pos g1, e1, hr, Int.toNat_natCast]
    by_cases h : ((i + 1 : Nat) : Int) < (s.length : Int)
    · have hj2 := hz (i + 1) (by omega)
      have e2 : rd s ((i + 1 : Nat) : Int) = ((rd s ((i + 1 : Nat) : Int)).toNat : Int) := (Int.toNat_of_nonneg hj2.1).symm
      rw [if_pos h, if_pos g4, e2]
      refine hgo _ ?_
      unfold nextAt
      rw [if_pos h]
    · rw [if_neg h]
      refine hgo _ ?_
      unfold nextAt
      rw [if_neg h]
theorem specFor_is (k : Nat) (cs : List S34) (fc st : List Int) (x y : Int) (hh : hdOk cs fc st x y = true) (s : List Int) (hs : s.length ≤ 1048576) (hz : ∀ j : Nat, j < s.length → 0 ≤ rd s (j : Int) ∧ rd s (j : Int) < fc.length) (hk : 200000000 ≤ k) : spec_l08For.f k cs fc st x y s = some (forP cs fc s) := by
  unfold spec_l08For.f forP
  exact specFor_l0 cs fc st x y hh s hs hz s.length k 0 [] (by omega) (by omega) (by simp) (planIn_nil _)
theorem specEnough_is (k : Nat) (cs : List S34) (fc st : List Int) (x y : Int) (hh : hdOk cs fc st x y = true) (p : List S49) (hp : shortS p) (hk : 6000000 ≤ k) : spec_l08Enough.f k cs fc st x y p = some (failP cs fc p).isNone := by
  unfold spec_l08Enough.f
  rw [specFail_is k cs fc st x y hh p hp (by omega), bind_some_]
  cases failP cs fc p with
  | none => rfl
  | some q => obtain ⟨c, n⟩ := q; rfl

end Go.Proofs.Ytfcadpkhmkjibaa.P
/- The plan for stops, as both sides answer. -/
namespace Go.Proofs.Ytfcadpkhmkjibaa.P
open Go.RowKit Go.Proofs.Ytfcadpkhmkjibaa.P Go.Proofs.YtfcadpkhmkjibaaW.PrintWords Go.Proofs.YtfcadpkhmkjibaaW.PrintLast Go.Proofs.YtfcadpkhmkjibaaW.PrintMore
set_option linter.unusedVariables false
set_option linter.unusedSimpArgs false
def planForP (cs : List S34) (fc st : List Int) (x y : Int) (s : List Int) : List S49 × Bool :=
  if (hdOk cs fc st x y && (rises s 0 (wrap64 ((fc.length : Int) - 1)) && !planForAny s st)) = true then (if (failP cs fc (forP cs fc s)).isNone = true then (forP cs fc s, true) else ([], false)) else ([], false)
theorem rises_rd {l : List Int} {lo hi : Int} (h : rises l lo hi = true) : ∀ j : Nat, j < l.length → lo ≤ rd l (j : Int) ∧ rd l (j : Int) ≤ hi := by
  intro j hj
  rw [rd_at l j hj]
  exact rises_mem h _ (List.getElem_mem hj)
theorem stops_in {cs : List S34} {fc st : List Int} {x y : Int} (hh : hdOk cs fc st x y = true) {s : List Int} (h : rises s 0 (wrap64 ((fc.length : Int) - 1)) = true) : ∀ j : Nat, j < s.length → 0 ≤ rd s (j : Int) ∧ rd s (j : Int) < fc.length := by
  intro j hj
  have hin := hdOk_in hh
  have := rises_rd h j hj
  rw [w64 _ (by omega) (by omega)] at this
  omega
theorem planForP_in (cs : List S34) (fc st : List Int) (x y : Int) (s : List Int) (hs : s.length ≤ 1048576) : shortS (planForP cs fc st x y s).1 := by
  unfold planForP
  split
  · rename_i h
    rw [Bool.and_eq_true] at h
    split
    · exact (forP_in fc s (hdOk_in h.1).1 hs).2.1
    · exact ⟨by simp, by simp⟩
  · exact ⟨by simp, by simp⟩
theorem implPlanFor_is (wearK : Nat) (hW : wearOk wearK) (k : Nat) (cs : List S34) (fc st : List Int) (x y : Int) (s : List Int) (hc : cs.length ≤ 1048576) (hb : fc.length ≤ 1048576) (hs : st.length ≤ 1048576) (hl : s.length ≤ 1048576) (hk : wearK + 200000002 ≤ k) : impl_PlanFor.f k cs fc st x y s = some (planForP cs fc st x y s) := by
  obtain ⟨k, rfl⟩ : ∃ m, k = m + 1 := ⟨k - 1, by omega⟩
  unfold impl_PlanFor.f planForP impl_PlanFor_1.f
  rw [implHead_is _ cs fc st x y hc hb hs (by omega), bind_some_, implRises_is _ s _ (by omega) (by omega), bind_some_, bind_some_]
  simp only [impl_PlanFor.j0]
  by_cases h : hdOk cs fc st x y = true
  · rw [if_pos h, h, Bool.true_and]
    by_cases h2 : rises s 0 (wrap64 ((fc.length : Int) - 1)) = true
    · rw [if_pos h2, h2, Bool.true_and]
      cases h3 : planForAny s st with
      | true => simp
      | false =>
        rw [if_neg (by simp), implFor_is wearK hW k cs fc st x y h s hl (stops_in h h2) (by omega), bind_some_]
        simp only [Bool.not_false, if_true]
        split <;> rfl
    · rw [if_neg h2]
      have h4 : rises s 0 (wrap64 ((fc.length : Int) - 1)) = false := by simpa using h2
      rw [h4]
      simp
  · rw [if_neg h]
    have h4 : hdOk cs fc st x y = false := by simpa using h
    rw [h4]
    simp
theorem specPlanFor_l0 (cs : List S34) (fc st : List Int) (x y : Int) (h : hdOk cs fc st x y = true) (s : List Int) (hl : s.length ≤ 1048576) (hz : ∀ j : Nat, j < s.length → 0 ≤ rd s (j : Int) ∧ rd s (j : Int) < fc.length) : ∀ (d k i : Nat), i + d = s.length → d + 200000000 < k → spec_PlanFor.l0 k s i cs fc st x y = some (if planForAny (s.drop i) st = true then ([], false) else (if (failP cs fc (forP cs fc s)).isNone = true then (forP cs fc s, true) else ([], false))) := by
  intro d
  have hin := hdOk_in h
  induction d with
  | zero =>
    intro k i hi hk
    obtain ⟨k, rfl⟩ : ∃ m, k = m + 1 := ⟨k - 1, by omega⟩
    simp only [spec_PlanFor.l0]
    rw [if_neg (by omega), specFor_is k cs fc st x y h s hl hz (by omega), bind_some_, specEnough_is k cs fc st x y h _ (forP_in fc s hin.1 hl).2.1 (by omega), bind_some_, List.drop_of_length_le (by omega)]
    rw [show planForAny [] st = false from rfl, if_neg (show ¬ (false = true) by decide)]
    split <;> rfl
  | succ d ih =>
    intro k i hi hk
    obtain ⟨k, rfl⟩ : ∃ m, k = m + 1 := ⟨k - 1, by omega⟩
    have hz2 := ih k (i + 1) (by omega) (by omega)
    simp only [spec_PlanFor.l0]
    rw [if_pos (by omega), if_pos (by omega), specHas_is k st _ (by omega) (by omega), bind_some_, w64s i (by omega), hz2, drop_at s i (by omega)]
    by_cases q : rd s (i : Int) ∈ st
    · rw [if_pos (decide_eq_true q)]
      simp [planForAny, q]
    · rw [if_neg (by simpa using q)]
      simp [planForAny, q]
theorem specPlanFor_is (k : Nat) (cs : List S34) (fc st : List Int) (x y : Int) (s : List Int) (hc : cs.length ≤ 1048576) (hb : fc.length ≤ 1048576) (hs : st.length ≤ 1048576) (hl : s.length ≤ 1048576) (hk : 300000000 ≤ k) : spec_PlanFor.f k cs fc st x y s = some (planForP cs fc st x y s) := by
  obtain ⟨k, rfl⟩ : ∃ m, k = m + 1 := ⟨k - 1, by omega⟩
  unfold spec_PlanFor.f planForP
  rw [specIs_is _ cs fc st x y hc hb hs (by omega), bind_some_, specRises_is _ s _ _ (by omega) (by omega), bind_some_]
  simp only [spec_PlanFor.j0]
  by_cases h : hdOk cs fc st x y = true
  · rw [if_pos h, h, Bool.true_and]
    by_cases h2 : rises s 0 (wrap64 ((fc.length : Int) - 1)) = true
    · have h3 := specPlanFor_l0 cs fc st x y h s hl (stops_in h h2) s.length k 0 (by omega) (by omega)
      rw [show ((0 : Nat) : Int) = 0 from rfl, List.drop_zero] at h3
      rw [h2, Bool.true_and, h3]
      cases planForAny s st <;> simp
    · have h4 : rises s 0 (wrap64 ((fc.length : Int) - 1)) = false := by simpa using h2
      rw [h4]
      simp
  · rw [if_neg h]
    have h4 : hdOk cs fc st x y = false := by simpa using h
    rw [h4]
    simp

end Go.Proofs.Ytfcadpkhmkjibaa.P
