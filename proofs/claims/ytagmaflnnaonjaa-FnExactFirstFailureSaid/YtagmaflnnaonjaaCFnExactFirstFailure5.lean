/- What the claim of FnExactFirstFailure bears, part 5: functions of the program as plain Lean functions, with proofs that the code comes to their answers, and lemmas on them. -/
import Derived.Test.YtagmaflnnaonjaaCFnExactFirstFailure0
import Derived.Test.YtagmaflnnaonjaaCFnExactFirstFailure1
import Derived.Test.YtagmaflnnaonjaaCFnExactFirstFailure2
import Derived.Test.YtagmaflnnaonjaaCFnExactFirstFailure3
import Derived.Test.YtagmaflnnaonjaaCFnExactFirstFailure4
set_option linter.unusedVariables false
set_option linter.unusedSimpArgs false
namespace Go.Proofs.Ytagmaflnnaonjaa.P
open Go.RowKit Go.Proofs.YtagmaflnnaonjaaW.PrintWords Go.Proofs.YtagmaflnnaonjaaW.PrintLast Go.Proofs.YtagmaflnnaonjaaW.PrintMore
attribute [local go_sem] max2_int min2_int max_two min_two max_three min_three max_four min_four   -- for this text's walks alone

def laws_FnExactFirstFailure.j0 : Nat → List (S100) → List (S106) → Bool → List (S156) → List Int → List Int → Int → Int → List (S154) → List Int → List Int → Int → Int → Option (Bool)
 | 0, _, _, _, _, _, _, _, _, _, _, _, _, _ => none
 | k + 1, x1, x10, x56, x646000, x646001, x646002, x646003, x646004, x677000, x677001, x677002, x677003, x677004 => if x56 = true then (some false) else ((laws_toHead.f k x646000 x646001 x646002 x646003 x646004).bind fun bt683 => ((laws_eqHead.f k x677000 x677001 x677002 x677003 x677004 bt683.1 bt683.2.1 bt683.2.2.1 bt683.2.2.2.1 bt683.2.2.2.2).bind fun t694 => (if t694 = true then ((laws_toStopS.f k x1).bind fun t695 => ((laws_eqStopS.f k x10 t695).bind fun t698 => (if t698 = true then (some true) else (some false)))) else (some false))))
def laws_FnExactFirstFailure.f (k : Nat) (l0_0 : List (S156)) (l0_1 : List Int) (l0_2 : List Int) (a0_3 : Int) (a0_4 : Int) (l1 : List (S100)) : Option (Bool) := (laws_szHead.f l0_0 l0_1 l0_2 a0_3 a0_4 1048576).bind fun t646 => (if t646 < 0 then (some true) else ((laws_szStopS.f k l1 t646).bind fun t647 => (if t647 < 0 then (some true) else ((laws_toHead.f k l0_0 l0_1 l0_2 a0_3 a0_4).bind fun bt648 => ((laws_toStopS.f k l1).bind fun t659 => ((spec_FirstFailure.f k bt648.1 bt648.2.1 bt648.2.2.1 bt648.2.2.2.1 bt648.2.2.2.2 t659).bind fun bt662 => ((laws_toHead.f k l0_0 l0_1 l0_2 a0_3 a0_4).bind fun bt665 => ((laws_toStopS.f k l1).bind fun t677 => ((impl_FirstFailure.f k bt665.1 bt665.2.1 bt665.2.2.1 bt665.2.2.2.1 bt665.2.2.2.2 t677).bind fun bt680 => (if bt680.1 = bt662.1 then (if bt680.2.1 = bt662.2.1 then (laws_FnExactFirstFailure.j0 k l1 t677 (bt680.2.2 != bt662.2.2) l0_0 l0_1 l0_2 a0_3 a0_4 bt665.1 bt665.2.1 bt665.2.2.1 bt665.2.2.2.1 bt665.2.2.2.2) else (laws_FnExactFirstFailure.j0 k l1 t677 true l0_0 l0_1 l0_2 a0_3 a0_4 bt665.1 bt665.2.1 bt665.2.2.1 bt665.2.2.2.1 bt665.2.2.2.2)) else (laws_FnExactFirstFailure.j0 k l1 t677 true l0_0 l0_1 l0_2 a0_3 a0_4 bt665.1 bt665.2.1 bt665.2.2.1 bt665.2.2.2.1 bt665.2.2.2.2)))))))))))
set_option maxHeartbeats 8000000 in
set_option maxRecDepth 100000 in
theorem laws_FnExactFirstFailure.calls (k : Nat) (A0_0 : Option Addr) (c0_0 : Nat) (l0_0 : List (S156)) (A0_1 : Option Addr) (c0_1 : Nat) (l0_1 : List Int) (A0_2 : Option Addr) (c0_2 : Nat) (l0_2 : List Int) (a0_3 : Int) (a0_4 : Int) (A1 : Option Addr) (c1 : Nat) (l1 : List (S100)) (r : Bool) (w : World) (hr0_0 : Kd.C k156 w A0_0 l0_0.length l0_0) (hc0_0 : l0_0.length ≤ c0_0) (hr0_1 : Kd.C (Kd.int .i64) w A0_1 l0_1.length l0_1) (hc0_1 : l0_1.length ≤ c0_1) (hr0_2 : Kd.C (Kd.int .i64) w A0_2 l0_2.length l0_2) (hc0_2 : l0_2.length ≤ c0_2) (hr1 : Kd.C k100 w A1 l1.length l1) (hc1 : l1.length ≤ c1) (h : laws_FnExactFirstFailure.f k l0_0 l0_1 l0_2 a0_3 a0_4 l1 = some r) (hr_ : r = true) :
  Calls Try.prog 8 #[.agg #[.slice A0_0 l0_0.length c0_0, .slice A0_1 l0_1.length c0_1, .slice A0_2 l0_2.length c0_2, .int .i64 a0_3, .int .i64 a0_4], .slice A1 l1.length c1] w fun e w' => e = .returned (.bool r) ∧ Below w.heap.size w w' := by
 have hu25 := Try.underlying25
 have hu33 := Try.underlying33
 have HR0_0 := Aside0.mk hr0_0
 have HC0_0 := Aside0.mk hc0_0
 clear hr0_0 hc0_0
 have HR0_1 := Aside0.mk hr0_1
 have HC0_1 := Aside0.mk hc0_1
 clear hr0_1 hc0_1
 have HR0_2 := Aside0.mk hr0_2
 have HC0_2 := Aside0.mk hc0_2
 clear hr0_2 hc0_2
 have HR1 := Aside0.mk hr1
 have HC1 := Aside0.mk hc1
 clear hr1 hc1
 have HB := Aside0.mk (Below.refl w.heap.size w)
 have H : ((laws_szHead.f l0_0 l0_1 l0_2 a0_3 a0_4 1048576).bind fun t646 => (if t646 < 0 then (some true) else ((laws_szStopS.f k l1 t646).bind fun t647 => (if t647 < 0 then (some true) else ((laws_toHead.f k l0_0 l0_1 l0_2 a0_3 a0_4).bind fun bt648 => ((laws_toStopS.f k l1).bind fun t659 => ((spec_FirstFailure.f k bt648.1 bt648.2.1 bt648.2.2.1 bt648.2.2.2.1 bt648.2.2.2.2 t659).bind fun bt662 => ((laws_toHead.f k l0_0 l0_1 l0_2 a0_3 a0_4).bind fun bt665 => ((laws_toStopS.f k l1).bind fun t677 => ((impl_FirstFailure.f k bt665.1 bt665.2.1 bt665.2.2.1 bt665.2.2.2.1 bt665.2.2.2.2 t677).bind fun bt680 => (if bt680.1 = bt662.1 then (if bt680.2.1 = bt662.2.1 then (laws_FnExactFirstFailure.j0 k l1 t677 (bt680.2.2 != bt662.2.2) l0_0 l0_1 l0_2 a0_3 a0_4 bt665.1 bt665.2.1 bt665.2.2.1 bt665.2.2.2.1 bt665.2.2.2.2) else (laws_FnExactFirstFailure.j0 k l1 t677 true l0_0 l0_1 l0_2 a0_3 a0_4 bt665.1 bt665.2.1 bt665.2.2.1 bt665.2.2.2.1 bt665.2.2.2.2)) else (laws_FnExactFirstFailure.j0 k l1 t677 true l0_0 l0_1 l0_2 a0_3 a0_4 bt665.1 bt665.2.1 bt665.2.2.1 bt665.2.2.2.1 bt665.2.2.2.2)))))))))))) = some r := h
 clear h
 replace H := Option.bind_eq_some_iff.mp H
 obtain ⟨t646, A30, H⟩ := H
 replace H : (if t646 < 0 then (some true) else ((laws_szStopS.f k l1 t646).bind fun t647 => (if t647 < 0 then (some true) else ((laws_toHead.f k l0_0 l0_1 l0_2 a0_3 a0_4).bind fun bt648 => ((laws_toStopS.f k l1).bind fun t659 => ((spec_FirstFailure.f k bt648.1 bt648.2.1 bt648.2.2.1 bt648.2.2.2.1 bt648.2.2.2.2 t659).bind fun bt662 => ((laws_toHead.f k l0_0 l0_1 l0_2 a0_3 a0_4).bind fun bt665 => ((laws_toStopS.f k l1).bind fun t677 => ((impl_FirstFailure.f k bt665.1 bt665.2.1 bt665.2.2.1 bt665.2.2.2.1 bt665.2.2.2.2 t677).bind fun bt680 => (if bt680.1 = bt662.1 then (if bt680.2.1 = bt662.2.1 then (laws_FnExactFirstFailure.j0 k l1 t677 (bt680.2.2 != bt662.2.2) l0_0 l0_1 l0_2 a0_3 a0_4 bt665.1 bt665.2.1 bt665.2.2.1 bt665.2.2.2.1 bt665.2.2.2.2) else (laws_FnExactFirstFailure.j0 k l1 t677 true l0_0 l0_1 l0_2 a0_3 a0_4 bt665.1 bt665.2.1 bt665.2.2.1 bt665.2.2.2.1 bt665.2.2.2.2)) else (laws_FnExactFirstFailure.j0 k l1 t677 true l0_0 l0_1 l0_2 a0_3 a0_4 bt665.1 bt665.2.1 bt665.2.2.1 bt665.2.2.2.1 bt665.2.2.2.2))))))))))) = some r := H
 have A3 := Aside0.mk A30
 clear A30
 by_cases c4 : t646 < 0
 ·rw [if_pos c4] at H
  have c4b0 : decide (t646 < 0) = true := decide_eq_true c4
  clear c4
  obtain rfl := Option.some.inj H
  go_enter Try.func8, Try.ntmps8
  go_wp2_with (first | ((with_reducible refine gate_dst (N := 2) rfl ?_); refine box_event ?hg (N := 2) ?hd (cs := #[.slice A0_0 l0_0.length c0_0, .slice A0_1 l0_1.length c0_1, .slice A0_2 l0_2.length c0_2, .int .i64 a0_3, .int .i64 a0_4]) (t := 25) ?hr ?_; (case hd => rfl); (case hg => rfl); (case hr => first | (go_simp; done) | (go_simp; rfl)); intro gb645 hg w5 hbox hb; have n0_ := Aside0.mk (below_step (by repeat (first | (with_reducible first | exact HB.out | apply below_alloc | apply pw_below_drewN | apply below_drew1) | exact HB.out)) hb); have n1_ := Aside0.mk (hbox); have n2_ := Aside0.mk ((by rw [hg]; exact (below_size (by repeat (first | (with_reducible first | exact HB.out | apply below_alloc | apply pw_below_drewN | apply below_drew1) | exact HB.out))) : w.heap.size ≤ gb645)); have n3_ := Aside0.mk ((by rw [hg]; exact (below_size (by repeat (first | (with_reducible first | exact HB.out | apply below_alloc | apply pw_below_drewN | apply below_drew1) | exact HB.out))) : w.heap.size ≤ gb645)); clear HB; have HB := n0_; have BK645 := n1_; have GW645 := n2_; have GE645 := n3_; clear n0_ n1_ n2_ n3_; clear hb hbox hg; have hcz6_0 : w5.cell? ⟨gb645, 0, none⟩ = some (.slice A0_0 l0_0.length c0_0) := (blk_cell BK645.out 0).trans rfl; have hcz6_1 : w5.cell? ⟨gb645, 1, none⟩ = some (.slice A0_1 l0_1.length c0_1) := (blk_cell BK645.out 1).trans rfl; have hcz6_2 : w5.cell? ⟨gb645, 2, none⟩ = some (.slice A0_2 l0_2.length c0_2) := (blk_cell BK645.out 2).trans rfl; have hcz6_3 : w5.cell? ⟨gb645, 3, none⟩ = some (.int .i64 a0_3) := (blk_cell BK645.out 3).trans rfl; have hcz6_4 : w5.cell? ⟨gb645, 4, none⟩ = some (.int .i64 a0_4) := (blk_cell BK645.out 4).trans rfl; have hfz6_0 := blk_frozen BK645.out 0; have hfz6_1 := blk_frozen BK645.out 1; have hfz6_2 := blk_frozen BK645.out 2; have hfz6_3 := blk_frozen BK645.out 3; have hfz6_4 := blk_frozen BK645.out 4) | ((with_reducible refine gate_callee (f := 13) rfl ?_); refine goesL_ (some 16) rfl rfl Try.func13 (by kernel_rfl) rfl #[.agg #[.slice A0_0 l0_0.length c0_0, .slice A0_1 l0_1.length c0_1, .slice A0_2 l0_2.length c0_2, .int .i64 a0_3, .int .i64 a0_4], .int .i64 1048576] rfl (by (try simp only [List.map_toArray, List.map_cons, List.map_nil]); first | done | rfl) ?_; (with_reducible refine (laws_szHead.calls _ _ l0_0 _ _ l0_1 _ _ l0_2 a0_3 a0_4 1048576 t646 _ ?side1 ?side2 ?side3 ?side4 ?side5 ?side6 A3.out).mono ?_); (case side1 => repeat (first | exact (Kd.C_below HR0_0.out HB.out) | (with_reducible first | refine Kd.C_alloc ?_ _ | refine Kd.C_drewN ?_ _ | refine Kd.C_drew ?_))); (case side2 => exact HC0_0.out); (case side3 => repeat (first | exact (Kd.C_below HR0_1.out HB.out) | (with_reducible first | refine Kd.C_alloc ?_ _ | refine Kd.C_drewN ?_ _ | refine Kd.C_drew ?_))); (case side4 => exact HC0_1.out); (case side5 => repeat (first | exact (Kd.C_below HR0_2.out HB.out) | (with_reducible first | refine Kd.C_alloc ?_ _ | refine Kd.C_drewN ?_ _ | refine Kd.C_drew ?_))); (case side6 => exact HC0_2.out); rintro e w7 ⟨rfl, hb⟩; refine ⟨_, rfl, ?_⟩; have n0_ := Aside0.mk (blk_below (g := gb645) (o := .cells #[.slice A0_0 l0_0.length c0_0, .slice A0_1 l0_1.length c0_1, .slice A0_2 l0_2.length c0_2, .int .i64 a0_3, .int .i64 a0_4] 25 (0, 0)) (by (with_reducible repeat (first | refine blk_drewN ?_ _ | refine blk_drew ?_ | refine blk_alloc ?_ _)); exact BK645.out) hb); have n1_ := Aside0.mk (below_step (by repeat (first | (with_reducible first | exact HB.out | apply below_alloc | apply pw_below_drewN | apply below_drew1 | refine below_set ?_ GE645.out) | exact HB.out)) hb); clear BK645; clear HB; have BK645 := n0_; have HB := n1_; clear n0_ n1_; (try clear hb); (try clear hb2); (try clear hk); (try clear hi)))
  go_ret
  exact ⟨by first | rfl | (simp [errW_none, errW_some] <;> rfl) | (simp [*, errW_none, errW_some] <;> rfl) | (simp [Int.tdiv_eq_ediv_of_nonneg, *]; done), by repeat (first | (with_reducible first | exact HB.out | apply below_alloc | apply pw_below_drewN | apply below_drew1 | refine below_set ?_ GE645.out) | exact HB.out)⟩
 ·rw [if_neg c4] at H
  have c4b0 : decide (t646 < 0) = false := decide_eq_false c4
  clear c4
  replace H := Option.bind_eq_some_iff.mp H
  obtain ⟨t647, A80, H⟩ := H
  replace H : (if t647 < 0 then (some true) else ((laws_toHead.f k l0_0 l0_1 l0_2 a0_3 a0_4).bind fun bt648 => ((laws_toStopS.f k l1).bind fun t659 => ((spec_FirstFailure.f k bt648.1 bt648.2.1 bt648.2.2.1 bt648.2.2.2.1 bt648.2.2.2.2 t659).bind fun bt662 => ((laws_toHead.f k l0_0 l0_1 l0_2 a0_3 a0_4).bind fun bt665 => ((laws_toStopS.f k l1).bind fun t677 => ((impl_FirstFailure.f k bt665.1 bt665.2.1 bt665.2.2.1 bt665.2.2.2.1 bt665.2.2.2.2 t677).bind fun bt680 => (if bt680.1 = bt662.1 then (if bt680.2.1 = bt662.2.1 then (laws_FnExactFirstFailure.j0 k l1 t677 (bt680.2.2 != bt662.2.2) l0_0 l0_1 l0_2 a0_3 a0_4 bt665.1 bt665.2.1 bt665.2.2.1 bt665.2.2.2.1 bt665.2.2.2.2) else (laws_FnExactFirstFailure.j0 k l1 t677 true l0_0 l0_1 l0_2 a0_3 a0_4 bt665.1 bt665.2.1 bt665.2.2.1 bt665.2.2.2.1 bt665.2.2.2.2)) else (laws_FnExactFirstFailure.j0 k l1 t677 true l0_0 l0_1 l0_2 a0_3 a0_4 bt665.1 bt665.2.1 bt665.2.2.1 bt665.2.2.2.1 bt665.2.2.2.2))))))))) = some r := H
  have A8 := Aside0.mk A80
  clear A80
  by_cases c9 : t647 < 0
  ·rw [if_pos c9] at H
   have c9b0 : decide (t647 < 0) = true := decide_eq_true c9
   clear c9
   obtain rfl := Option.some.inj H
   go_enter Try.func8, Try.ntmps8
   go_wp2_with (first | ((with_reducible refine gate_dst (N := 2) rfl ?_); refine box_event ?hg (N := 2) ?hd (cs := #[.slice A0_0 l0_0.length c0_0, .slice A0_1 l0_1.length c0_1, .slice A0_2 l0_2.length c0_2, .int .i64 a0_3, .int .i64 a0_4]) (t := 25) ?hr ?_; (case hd => rfl); (case hg => rfl); (case hr => first | (go_simp; done) | (go_simp; rfl)); intro gb645 hg w10 hbox hb; have n0_ := Aside0.mk (below_step (by repeat (first | (with_reducible first | exact HB.out | apply below_alloc | apply pw_below_drewN | apply below_drew1) | exact HB.out)) hb); have n1_ := Aside0.mk (hbox); have n2_ := Aside0.mk ((by rw [hg]; exact (below_size (by repeat (first | (with_reducible first | exact HB.out | apply below_alloc | apply pw_below_drewN | apply below_drew1) | exact HB.out))) : w.heap.size ≤ gb645)); have n3_ := Aside0.mk ((by rw [hg]; exact (below_size (by repeat (first | (with_reducible first | exact HB.out | apply below_alloc | apply pw_below_drewN | apply below_drew1) | exact HB.out))) : w.heap.size ≤ gb645)); clear HB; have HB := n0_; have BK645 := n1_; have GW645 := n2_; have GE645 := n3_; clear n0_ n1_ n2_ n3_; clear hb hbox hg; have hcz11_0 : w10.cell? ⟨gb645, 0, none⟩ = some (.slice A0_0 l0_0.length c0_0) := (blk_cell BK645.out 0).trans rfl; have hcz11_1 : w10.cell? ⟨gb645, 1, none⟩ = some (.slice A0_1 l0_1.length c0_1) := (blk_cell BK645.out 1).trans rfl; have hcz11_2 : w10.cell? ⟨gb645, 2, none⟩ = some (.slice A0_2 l0_2.length c0_2) := (blk_cell BK645.out 2).trans rfl; have hcz11_3 : w10.cell? ⟨gb645, 3, none⟩ = some (.int .i64 a0_3) := (blk_cell BK645.out 3).trans rfl; have hcz11_4 : w10.cell? ⟨gb645, 4, none⟩ = some (.int .i64 a0_4) := (blk_cell BK645.out 4).trans rfl; have hfz11_0 := blk_frozen BK645.out 0; have hfz11_1 := blk_frozen BK645.out 1; have hfz11_2 := blk_frozen BK645.out 2; have hfz11_3 := blk_frozen BK645.out 3; have hfz11_4 := blk_frozen BK645.out 4) | ((with_reducible refine gate_callee (f := 13) rfl ?_); refine goesL_ (some 16) rfl rfl Try.func13 (by kernel_rfl) rfl #[.agg #[.slice A0_0 l0_0.length c0_0, .slice A0_1 l0_1.length c0_1, .slice A0_2 l0_2.length c0_2, .int .i64 a0_3, .int .i64 a0_4], .int .i64 1048576] rfl (by (try simp only [List.map_toArray, List.map_cons, List.map_nil]); first | done | rfl) ?_; (with_reducible refine (laws_szHead.calls _ _ l0_0 _ _ l0_1 _ _ l0_2 a0_3 a0_4 1048576 t646 _ ?side1 ?side2 ?side3 ?side4 ?side5 ?side6 A3.out).mono ?_); (case side1 => repeat (first | exact (Kd.C_below HR0_0.out HB.out) | (with_reducible first | refine Kd.C_alloc ?_ _ | refine Kd.C_drewN ?_ _ | refine Kd.C_drew ?_))); (case side2 => exact HC0_0.out); (case side3 => repeat (first | exact (Kd.C_below HR0_1.out HB.out) | (with_reducible first | refine Kd.C_alloc ?_ _ | refine Kd.C_drewN ?_ _ | refine Kd.C_drew ?_))); (case side4 => exact HC0_1.out); (case side5 => repeat (first | exact (Kd.C_below HR0_2.out HB.out) | (with_reducible first | refine Kd.C_alloc ?_ _ | refine Kd.C_drewN ?_ _ | refine Kd.C_drew ?_))); (case side6 => exact HC0_2.out); rintro e w12 ⟨rfl, hb⟩; refine ⟨_, rfl, ?_⟩; have n0_ := Aside0.mk (blk_below (g := gb645) (o := .cells #[.slice A0_0 l0_0.length c0_0, .slice A0_1 l0_1.length c0_1, .slice A0_2 l0_2.length c0_2, .int .i64 a0_3, .int .i64 a0_4] 25 (0, 0)) (by (with_reducible repeat (first | refine blk_drewN ?_ _ | refine blk_drew ?_ | refine blk_alloc ?_ _)); exact BK645.out) hb); have n1_ := Aside0.mk (below_step (by repeat (first | (with_reducible first | exact HB.out | apply below_alloc | apply pw_below_drewN | apply below_drew1 | refine below_set ?_ GE645.out) | exact HB.out)) hb); clear BK645; clear HB; have BK645 := n0_; have HB := n1_; clear n0_ n1_; (try clear hb); (try clear hb2); (try clear hk); (try clear hi)) | ((with_reducible refine gate_callee (f := 14) rfl ?_); refine goesL_ (some 21) rfl rfl Try.func14 (by kernel_rfl) rfl #[.slice A1 l1.length c1, .int .i64 t646] rfl (by (try simp only [List.map_toArray, List.map_cons, List.map_nil]); first | done | rfl) ?_; (with_reducible refine (laws_szStopS.calls k _ _ l1 t646 t647 _ ?side1 ?side2 A8.out).mono ?_); (case side1 => repeat (first | exact (Kd.C_below HR1.out HB.out) | (with_reducible first | refine Kd.C_alloc ?_ _ | refine Kd.C_drewN ?_ _ | refine Kd.C_drew ?_))); (case side2 => exact HC1.out); rintro e w13 ⟨rfl, hb⟩; refine ⟨_, rfl, ?_⟩; have n0_ := Aside0.mk (blk_below (g := gb645) (o := .cells #[.slice A0_0 l0_0.length c0_0, .slice A0_1 l0_1.length c0_1, .slice A0_2 l0_2.length c0_2, .int .i64 a0_3, .int .i64 a0_4] 25 (0, 0)) (by (with_reducible repeat (first | refine blk_drewN ?_ _ | refine blk_drew ?_ | refine blk_alloc ?_ _)); exact BK645.out) hb); have n1_ := Aside0.mk (below_step (by repeat (first | (with_reducible first | exact HB.out | apply below_alloc | apply pw_below_drewN | apply below_drew1 | refine below_set ?_ GE645.out) | exact HB.out)) hb); clear BK645; clear HB; have BK645 := n0_; have HB := n1_; clear n0_ n1_; (try clear hb); (try clear hb2); (try clear hk); (try clear hi)))
   go_ret
   exact ⟨by first | rfl | (simp [errW_none, errW_some] <;> rfl) | (simp [*, errW_none, errW_some] <;> rfl) | (simp [Int.tdiv_eq_ediv_of_nonneg, *]; done), by repeat (first | (with_reducible first | exact HB.out | apply below_alloc | apply pw_below_drewN | apply below_drew1 | refine below_set ?_ GE645.out) | exact HB.out)⟩
  ·rw [if_neg c9] at H
   have c9b0 : decide (t647 < 0) = false := decide_eq_false c9
   clear c9
   replace H := Option.bind_eq_some_iff.mp H
   obtain ⟨⟨t648, t651, t654, t657, t658⟩, A140, H⟩ := H
   replace H : ((laws_toStopS.f k l1).bind fun t659 => ((spec_FirstFailure.f k t648 t651 t654 t657 t658 t659).bind fun bt662 => ((laws_toHead.f k l0_0 l0_1 l0_2 a0_3 a0_4).bind fun bt665 => ((laws_toStopS.f k l1).bind fun t677 => ((impl_FirstFailure.f k bt665.1 bt665.2.1 bt665.2.2.1 bt665.2.2.2.1 bt665.2.2.2.2 t677).bind fun bt680 => (if bt680.1 = bt662.1 then (if bt680.2.1 = bt662.2.1 then (laws_FnExactFirstFailure.j0 k l1 t677 (bt680.2.2 != bt662.2.2) l0_0 l0_1 l0_2 a0_3 a0_4 bt665.1 bt665.2.1 bt665.2.2.1 bt665.2.2.2.1 bt665.2.2.2.2) else (laws_FnExactFirstFailure.j0 k l1 t677 true l0_0 l0_1 l0_2 a0_3 a0_4 bt665.1 bt665.2.1 bt665.2.2.1 bt665.2.2.2.1 bt665.2.2.2.2)) else (laws_FnExactFirstFailure.j0 k l1 t677 true l0_0 l0_1 l0_2 a0_3 a0_4 bt665.1 bt665.2.1 bt665.2.2.1 bt665.2.2.2.1 bt665.2.2.2.2))))))) = some r := H
   have A14 := Aside0.mk A140
   clear A140
   replace H := Option.bind_eq_some_iff.mp H
   obtain ⟨t659, A150, H⟩ := H
   replace H : ((spec_FirstFailure.f k t648 t651 t654 t657 t658 t659).bind fun bt662 => ((laws_toHead.f k l0_0 l0_1 l0_2 a0_3 a0_4).bind fun bt665 => ((laws_toStopS.f k l1).bind fun t677 => ((impl_FirstFailure.f k bt665.1 bt665.2.1 bt665.2.2.1 bt665.2.2.2.1 bt665.2.2.2.2 t677).bind fun bt680 => (if bt680.1 = bt662.1 then (if bt680.2.1 = bt662.2.1 then (laws_FnExactFirstFailure.j0 k l1 t677 (bt680.2.2 != bt662.2.2) l0_0 l0_1 l0_2 a0_3 a0_4 bt665.1 bt665.2.1 bt665.2.2.1 bt665.2.2.2.1 bt665.2.2.2.2) else (laws_FnExactFirstFailure.j0 k l1 t677 true l0_0 l0_1 l0_2 a0_3 a0_4 bt665.1 bt665.2.1 bt665.2.2.1 bt665.2.2.2.1 bt665.2.2.2.2)) else (laws_FnExactFirstFailure.j0 k l1 t677 true l0_0 l0_1 l0_2 a0_3 a0_4 bt665.1 bt665.2.1 bt665.2.2.1 bt665.2.2.2.1 bt665.2.2.2.2)))))) = some r := H
   have A15 := Aside0.mk A150
   clear A150
   replace H := Option.bind_eq_some_iff.mp H
   obtain ⟨⟨t662, t663, t664⟩, A160, H⟩ := H
   replace H : ((laws_toHead.f k l0_0 l0_1 l0_2 a0_3 a0_4).bind fun bt665 => ((laws_toStopS.f k l1).bind fun t677 => ((impl_FirstFailure.f k bt665.1 bt665.2.1 bt665.2.2.1 bt665.2.2.2.1 bt665.2.2.2.2 t677).bind fun bt680 => (if bt680.1 = t662 then (if bt680.2.1 = t663 then (laws_FnExactFirstFailure.j0 k l1 t677 (bt680.2.2 != t664) l0_0 l0_1 l0_2 a0_3 a0_4 bt665.1 bt665.2.1 bt665.2.2.1 bt665.2.2.2.1 bt665.2.2.2.2) else (laws_FnExactFirstFailure.j0 k l1 t677 true l0_0 l0_1 l0_2 a0_3 a0_4 bt665.1 bt665.2.1 bt665.2.2.1 bt665.2.2.2.1 bt665.2.2.2.2)) else (laws_FnExactFirstFailure.j0 k l1 t677 true l0_0 l0_1 l0_2 a0_3 a0_4 bt665.1 bt665.2.1 bt665.2.2.1 bt665.2.2.2.1 bt665.2.2.2.2))))) = some r := H
   have A16 := Aside0.mk A160
   clear A160
   replace H := Option.bind_eq_some_iff.mp H
   obtain ⟨⟨t665, t668, t671, t674, t675⟩, A170, H⟩ := H
   replace H : ((laws_toStopS.f k l1).bind fun t677 => ((impl_FirstFailure.f k t665 t668 t671 t674 t675 t677).bind fun bt680 => (if bt680.1 = t662 then (if bt680.2.1 = t663 then (laws_FnExactFirstFailure.j0 k l1 t677 (bt680.2.2 != t664) l0_0 l0_1 l0_2 a0_3 a0_4 t665 t668 t671 t674 t675) else (laws_FnExactFirstFailure.j0 k l1 t677 true l0_0 l0_1 l0_2 a0_3 a0_4 t665 t668 t671 t674 t675)) else (laws_FnExactFirstFailure.j0 k l1 t677 true l0_0 l0_1 l0_2 a0_3 a0_4 t665 t668 t671 t674 t675)))) = some r := H
   have A17 := Aside0.mk A170
   clear A170
   replace H := Option.bind_eq_some_iff.mp H
   obtain ⟨t677, A180, H⟩ := H
   replace H : ((impl_FirstFailure.f k t665 t668 t671 t674 t675 t677).bind fun bt680 => (if bt680.1 = t662 then (if bt680.2.1 = t663 then (laws_FnExactFirstFailure.j0 k l1 t677 (bt680.2.2 != t664) l0_0 l0_1 l0_2 a0_3 a0_4 t665 t668 t671 t674 t675) else (laws_FnExactFirstFailure.j0 k l1 t677 true l0_0 l0_1 l0_2 a0_3 a0_4 t665 t668 t671 t674 t675)) else (laws_FnExactFirstFailure.j0 k l1 t677 true l0_0 l0_1 l0_2 a0_3 a0_4 t665 t668 t671 t674 t675))) = some r := H
   have A18 := Aside0.mk A180
   clear A180
   replace H := Option.bind_eq_some_iff.mp H
   obtain ⟨⟨t680, t681, t682⟩, A190, H⟩ := H
   replace H : (if t680 = t662 then (if t681 = t663 then (laws_FnExactFirstFailure.j0 k l1 t677 (t682 != t664) l0_0 l0_1 l0_2 a0_3 a0_4 t665 t668 t671 t674 t675) else (laws_FnExactFirstFailure.j0 k l1 t677 true l0_0 l0_1 l0_2 a0_3 a0_4 t665 t668 t671 t674 t675)) else (laws_FnExactFirstFailure.j0 k l1 t677 true l0_0 l0_1 l0_2 a0_3 a0_4 t665 t668 t671 t674 t675)) = some r := H
   have A19 := Aside0.mk A190
   clear A190
   have HC20 := Aside0.mk H
   clear H
   go_enter Try.func8, Try.ntmps8
   go_upto_region 12 with (first | ((with_reducible refine gate_dst (N := 2) rfl ?_); refine box_event ?hg (N := 2) ?hd (cs := #[.slice A0_0 l0_0.length c0_0, .slice A0_1 l0_1.length c0_1, .slice A0_2 l0_2.length c0_2, .int .i64 a0_3, .int .i64 a0_4]) (t := 25) ?hr ?_; (case hd => rfl); (case hg => rfl); (case hr => first | (go_simp; done) | (go_simp; rfl)); intro gb645 hg w21 hbox hb; have n0_ := Aside0.mk (below_step (by repeat (first | (with_reducible first | exact HB.out | apply below_alloc | apply pw_below_drewN | apply below_drew1) | exact HB.out)) hb); have n1_ := Aside0.mk (hbox); have n2_ := Aside0.mk ((by rw [hg]; exact (below_size (by repeat (first | (with_reducible first | exact HB.out | apply below_alloc | apply pw_below_drewN | apply below_drew1) | exact HB.out))) : w.heap.size ≤ gb645)); have n3_ := Aside0.mk ((by rw [hg]; exact (below_size (by repeat (first | (with_reducible first | exact HB.out | apply below_alloc | apply pw_below_drewN | apply below_drew1) | exact HB.out))) : w.heap.size ≤ gb645)); clear HB; have HB := n0_; have BK645 := n1_; have GW645 := n2_; have GE645 := n3_; clear n0_ n1_ n2_ n3_; clear hb hbox hg; have hcz22_0 : w21.cell? ⟨gb645, 0, none⟩ = some (.slice A0_0 l0_0.length c0_0) := (blk_cell BK645.out 0).trans rfl; have hcz22_1 : w21.cell? ⟨gb645, 1, none⟩ = some (.slice A0_1 l0_1.length c0_1) := (blk_cell BK645.out 1).trans rfl; have hcz22_2 : w21.cell? ⟨gb645, 2, none⟩ = some (.slice A0_2 l0_2.length c0_2) := (blk_cell BK645.out 2).trans rfl; have hcz22_3 : w21.cell? ⟨gb645, 3, none⟩ = some (.int .i64 a0_3) := (blk_cell BK645.out 3).trans rfl; have hcz22_4 : w21.cell? ⟨gb645, 4, none⟩ = some (.int .i64 a0_4) := (blk_cell BK645.out 4).trans rfl; have hfz22_0 := blk_frozen BK645.out 0; have hfz22_1 := blk_frozen BK645.out 1; have hfz22_2 := blk_frozen BK645.out 2; have hfz22_3 := blk_frozen BK645.out 3; have hfz22_4 := blk_frozen BK645.out 4) | ((with_reducible refine gate_callee (f := 13) rfl ?_); refine goesL_ (some 16) rfl rfl Try.func13 (by kernel_rfl) rfl #[.agg #[.slice A0_0 l0_0.length c0_0, .slice A0_1 l0_1.length c0_1, .slice A0_2 l0_2.length c0_2, .int .i64 a0_3, .int .i64 a0_4], .int .i64 1048576] rfl (by (try simp only [List.map_toArray, List.map_cons, List.map_nil]); first | done | rfl) ?_; (with_reducible refine (laws_szHead.calls _ _ l0_0 _ _ l0_1 _ _ l0_2 a0_3 a0_4 1048576 t646 _ ?side1 ?side2 ?side3 ?side4 ?side5 ?side6 A3.out).mono ?_); (case side1 => repeat (first | exact (Kd.C_below HR0_0.out HB.out) | (with_reducible first | refine Kd.C_alloc ?_ _ | refine Kd.C_drewN ?_ _ | refine Kd.C_drew ?_))); (case side2 => exact HC0_0.out); (case side3 => repeat (first | exact (Kd.C_below HR0_1.out HB.out) | (with_reducible first | refine Kd.C_alloc ?_ _ | refine Kd.C_drewN ?_ _ | refine Kd.C_drew ?_))); (case side4 => exact HC0_1.out); (case side5 => repeat (first | exact (Kd.C_below HR0_2.out HB.out) | (with_reducible first | refine Kd.C_alloc ?_ _ | refine Kd.C_drewN ?_ _ | refine Kd.C_drew ?_))); (case side6 => exact HC0_2.out); rintro e w23 ⟨rfl, hb⟩; refine ⟨_, rfl, ?_⟩; have n0_ := Aside0.mk (blk_below (g := gb645) (o := .cells #[.slice A0_0 l0_0.length c0_0, .slice A0_1 l0_1.length c0_1, .slice A0_2 l0_2.length c0_2, .int .i64 a0_3, .int .i64 a0_4] 25 (0, 0)) (by (with_reducible repeat (first | refine blk_drewN ?_ _ | refine blk_drew ?_ | refine blk_alloc ?_ _)); exact BK645.out) hb); have n1_ := Aside0.mk (below_step (by repeat (first | (with_reducible first | exact HB.out | apply below_alloc | apply pw_below_drewN | apply below_drew1 | refine below_set ?_ GE645.out) | exact HB.out)) hb); clear BK645; clear HB; have BK645 := n0_; have HB := n1_; clear n0_ n1_; (try clear hb); (try clear hb2); (try clear hk); (try clear hi)) | ((with_reducible refine gate_callee (f := 14) rfl ?_); refine goesL_ (some 21) rfl rfl Try.func14 (by kernel_rfl) rfl #[.slice A1 l1.length c1, .int .i64 t646] rfl (by (try simp only [List.map_toArray, List.map_cons, List.map_nil]); first | done | rfl) ?_; (with_reducible refine (laws_szStopS.calls k _ _ l1 t646 t647 _ ?side1 ?side2 A8.out).mono ?_); (case side1 => repeat (first | exact (Kd.C_below HR1.out HB.out) | (with_reducible first | refine Kd.C_alloc ?_ _ | refine Kd.C_drewN ?_ _ | refine Kd.C_drew ?_))); (case side2 => exact HC1.out); rintro e w24 ⟨rfl, hb⟩; refine ⟨_, rfl, ?_⟩; have n0_ := Aside0.mk (blk_below (g := gb645) (o := .cells #[.slice A0_0 l0_0.length c0_0, .slice A0_1 l0_1.length c0_1, .slice A0_2 l0_2.length c0_2, .int .i64 a0_3, .int .i64 a0_4] 25 (0, 0)) (by (with_reducible repeat (first | refine blk_drewN ?_ _ | refine blk_drew ?_ | refine blk_alloc ?_ _)); exact BK645.out) hb); have n1_ := Aside0.mk (below_step (by repeat (first | (with_reducible first | exact HB.out | apply below_alloc | apply pw_below_drewN | apply below_drew1 | refine below_set ?_ GE645.out) | exact HB.out)) hb); clear BK645; clear HB; have BK645 := n0_; have HB := n1_; clear n0_ n1_; (try clear hb); (try clear hb2); (try clear hk); (try clear hi); have hcz25_0 : w24.cell? ⟨gb645, 0, none⟩ = some (.slice A0_0 l0_0.length c0_0) := (blk_cell BK645.out 0).trans rfl; have hcz25_1 : w24.cell? ⟨gb645, 1, none⟩ = some (.slice A0_1 l0_1.length c0_1) := (blk_cell BK645.out 1).trans rfl; have hcz25_2 : w24.cell? ⟨gb645, 2, none⟩ = some (.slice A0_2 l0_2.length c0_2) := (blk_cell BK645.out 2).trans rfl; have hcz25_3 : w24.cell? ⟨gb645, 3, none⟩ = some (.int .i64 a0_3) := (blk_cell BK645.out 3).trans rfl; have hcz25_4 : w24.cell? ⟨gb645, 4, none⟩ = some (.int .i64 a0_4) := (blk_cell BK645.out 4).trans rfl; have hfz25_0 := blk_frozen BK645.out 0; have hfz25_1 := blk_frozen BK645.out 1; have hfz25_2 := blk_frozen BK645.out 2; have hfz25_3 := blk_frozen BK645.out 3; have hfz25_4 := blk_frozen BK645.out 4) | ((with_reducible refine gate_callee (f := 16) rfl ?_); refine goesL_ (some 26) rfl rfl Try.func16 (by kernel_rfl) rfl #[.agg #[.slice A0_0 l0_0.length c0_0, .slice A0_1 l0_1.length c0_1, .slice A0_2 l0_2.length c0_2, .int .i64 a0_3, .int .i64 a0_4]] rfl (by (try simp only [List.map_toArray, List.map_cons, List.map_nil]); first | done | rfl) ?_; (with_reducible refine (laws_toHead.calls k _ _ l0_0 _ _ l0_1 _ _ l0_2 a0_3 a0_4 t648 t651 t654 t657 t658 _ ?side1 ?side2 ?side3 ?side4 ?side5 ?side6 A14.out).mono ?_); (case side1 => repeat (first | exact (Kd.C_below HR0_0.out HB.out) | (with_reducible first | refine Kd.C_alloc ?_ _ | refine Kd.C_drewN ?_ _ | refine Kd.C_drew ?_))); (case side2 => exact HC0_0.out); (case side3 => repeat (first | exact (Kd.C_below HR0_1.out HB.out) | (with_reducible first | refine Kd.C_alloc ?_ _ | refine Kd.C_drewN ?_ _ | refine Kd.C_drew ?_))); (case side4 => exact HC0_1.out); (case side5 => repeat (first | exact (Kd.C_below HR0_2.out HB.out) | (with_reducible first | refine Kd.C_alloc ?_ _ | refine Kd.C_drewN ?_ _ | refine Kd.C_drew ?_))); (case side6 => exact HC0_2.out); rintro e w26 ⟨v649, v652, v655, rfl, ho0, ho1, ho2, hb⟩; refine ⟨_, rfl, ?_⟩; have n0_ := Aside0.mk (Kd.R_lower ho0 (below_size (by repeat (first | (with_reducible first | exact HB.out | apply below_alloc | apply pw_below_drewN | apply below_drew1 | refine below_set ?_ GE645.out) | exact HB.out)))); have n1_ := Aside0.mk (Kd.R_lower ho1 (below_size (by repeat (first | (with_reducible first | exact HB.out | apply below_alloc | apply pw_below_drewN | apply below_drew1 | refine below_set ?_ GE645.out) | exact HB.out)))); have n2_ := Aside0.mk (Kd.R_lower ho2 (below_size (by repeat (first | (with_reducible first | exact HB.out | apply below_alloc | apply pw_below_drewN | apply below_drew1 | refine below_set ?_ GE645.out) | exact HB.out)))); have n3_ := Aside0.mk (blk_below (g := gb645) (o := .cells #[.slice A0_0 l0_0.length c0_0, .slice A0_1 l0_1.length c0_1, .slice A0_2 l0_2.length c0_2, .int .i64 a0_3, .int .i64 a0_4] 25 (0, 0)) (by (with_reducible repeat (first | refine blk_drewN ?_ _ | refine blk_drew ?_ | refine blk_alloc ?_ _)); exact BK645.out) hb); have n4_ := Aside0.mk (below_step (by repeat (first | (with_reducible first | exact HB.out | apply below_alloc | apply pw_below_drewN | apply below_drew1 | refine below_set ?_ GE645.out) | exact HB.out)) hb); clear BK645; clear HB; have HO650 := n0_; have HO653 := n1_; have HO656 := n2_; have BK645 := n3_; have HB := n4_; clear n0_ n1_ n2_ n3_ n4_; (try clear hb); (try clear hb2); (try clear hk); (try clear hi); (try clear ho0); (try clear ho1); (try clear ho2)) | ((with_reducible refine gate_callee (f := 17) rfl ?_); refine goesL_ (some 28) rfl rfl Try.func17 (by kernel_rfl) rfl #[.slice A1 l1.length c1] rfl (by (try simp only [List.map_toArray, List.map_cons, List.map_nil]); first | done | rfl) ?_; (with_reducible refine (laws_toStopS.calls k _ _ l1 t659 _ ?side1 ?side2 A15.out).mono ?_); (case side1 => repeat (first | exact (Kd.C_below HR1.out HB.out) | (with_reducible first | refine Kd.C_alloc ?_ _ | refine Kd.C_drewN ?_ _ | refine Kd.C_drew ?_))); (case side2 => exact HC1.out); rintro e w27 ⟨v660, rfl, ho0, hb⟩; refine ⟨_, rfl, ?_⟩; have n0_ := Aside0.mk (Kd.R_below (by (with_reducible repeat (first | apply Kd.R_alloc | apply Kd.R_drewN | apply Kd.R_drew)); exact HO650.out) hb); have n1_ := Aside0.mk (Kd.R_below (by (with_reducible repeat (first | apply Kd.R_alloc | apply Kd.R_drewN | apply Kd.R_drew)); exact HO653.out) hb); have n2_ := Aside0.mk (Kd.R_below (by (with_reducible repeat (first | apply Kd.R_alloc | apply Kd.R_drewN | apply Kd.R_drew)); exact HO656.out) hb); have n3_ := Aside0.mk (Kd.S_lower (Kd.S_new' (Kd.S_new' ho0 (Kd.R_lt (by (with_reducible repeat (first | apply Kd.R_alloc | apply Kd.R_drewN | apply Kd.R_drew)); exact HO653.out))) (Kd.R_lt (by (with_reducible repeat (first | apply Kd.R_alloc | apply Kd.R_drewN | apply Kd.R_drew)); exact HO656.out))) (below_size (by repeat (first | (with_reducible first | exact HB.out | apply below_alloc | apply pw_below_drewN | apply below_drew1 | refine below_set ?_ GE645.out) | exact HB.out)))); have n4_ := Aside0.mk (blk_below (g := gb645) (o := .cells #[.slice A0_0 l0_0.length c0_0, .slice A0_1 l0_1.length c0_1, .slice A0_2 l0_2.length c0_2, .int .i64 a0_3, .int .i64 a0_4] 25 (0, 0)) (by (with_reducible repeat (first | refine blk_drewN ?_ _ | refine blk_drew ?_ | refine blk_alloc ?_ _)); exact BK645.out) hb); have n5_ := Aside0.mk (below_step (by repeat (first | (with_reducible first | exact HB.out | apply below_alloc | apply pw_below_drewN | apply below_drew1 | refine below_set ?_ GE645.out) | exact HB.out)) hb); clear HO650; clear HO653; clear HO656; clear BK645; clear HB; have HO650 := n0_; have HO653 := n1_; have HO656 := n2_; have HO661 := n3_; have BK645 := n4_; have HB := n5_; clear n0_ n1_ n2_ n3_ n4_ n5_; (try clear hb); (try clear hb2); (try clear hk); (try clear hi); (try clear ho0); obtain ⟨Ao28, co28, eo28⟩ := Kd.R_slice HO650.out; subst eo28; obtain ⟨Ao29, co29, eo29⟩ := Kd.R_slice HO653.out; subst eo29; obtain ⟨Ao30, co30, eo30⟩ := Kd.R_slice HO656.out; subst eo30; obtain ⟨Ao31, co31, eo31⟩ := Kd.S_slice HO661.out; subst eo31) | ((with_reducible refine gate_callee (f := 40) rfl ?_); refine goesL_ (some 29) rfl rfl Try.func40 (by kernel_rfl) rfl #[.agg #[.slice Ao28 t648.length co28, .slice Ao29 t651.length co29, .slice Ao30 t654.length co30, .int .i64 t657, .int .i64 t658], .slice Ao31 t659.length co31] rfl (by (try simp only [List.map_toArray, List.map_cons, List.map_nil]); first | done | rfl) ?_; (with_reducible refine (spec_FirstFailure.calls k _ _ t648 _ _ t651 _ _ t654 t657 t658 _ _ t659 t662 t663 t664 _ ?side1 ?side2 ?side3 ?side4 ?side5 ?side6 ?side7 ?side8 A16.out).mono ?_); (case side1 => repeat (first | exact (Kd.R_reads' HO650.out).2.2 | (with_reducible first | refine Kd.C_alloc ?_ _ | refine Kd.C_drewN ?_ _ | refine Kd.C_drew ?_))); (case side2 => exact (Kd.R_reads' HO650.out).2.1); (case side3 => repeat (first | exact (Kd.R_reads' HO653.out).2.2 | (with_reducible first | refine Kd.C_alloc ?_ _ | refine Kd.C_drewN ?_ _ | refine Kd.C_drew ?_))); (case side4 => exact (Kd.R_reads' HO653.out).2.1); (case side5 => repeat (first | exact (Kd.R_reads' HO656.out).2.2 | (with_reducible first | refine Kd.C_alloc ?_ _ | refine Kd.C_drewN ?_ _ | refine Kd.C_drew ?_))); (case side6 => exact (Kd.R_reads' HO656.out).2.1); (case side7 => repeat (first | exact (Kd.S_reads' HO661.out).2.2 | (with_reducible first | refine Kd.C_alloc ?_ _ | refine Kd.C_drewN ?_ _ | refine Kd.C_drew ?_))); (case side8 => exact (Kd.S_reads' HO661.out).2.1); rintro e w32 ⟨rfl, hb⟩; refine ⟨_, rfl, ?_⟩; have n0_ := Aside0.mk (Kd.R_below (by (with_reducible repeat (first | apply Kd.R_alloc | apply Kd.R_drewN | apply Kd.R_drew)); exact HO650.out) hb); have n1_ := Aside0.mk (Kd.R_below (by (with_reducible repeat (first | apply Kd.R_alloc | apply Kd.R_drewN | apply Kd.R_drew)); exact HO653.out) hb); have n2_ := Aside0.mk (Kd.R_below (by (with_reducible repeat (first | apply Kd.R_alloc | apply Kd.R_drewN | apply Kd.R_drew)); exact HO656.out) hb); have n3_ := Aside0.mk (Kd.S_below (by (with_reducible repeat (first | apply Kd.S_alloc | apply Kd.S_drewN | apply Kd.S_drew)); exact HO661.out) hb); have n4_ := Aside0.mk (blk_below (g := gb645) (o := .cells #[.slice A0_0 l0_0.length c0_0, .slice A0_1 l0_1.length c0_1, .slice A0_2 l0_2.length c0_2, .int .i64 a0_3, .int .i64 a0_4] 25 (0, 0)) (by (with_reducible repeat (first | refine blk_drewN ?_ _ | refine blk_drew ?_ | refine blk_alloc ?_ _)); exact BK645.out) hb); have n5_ := Aside0.mk (below_step (by repeat (first | (with_reducible first | exact HB.out | apply below_alloc | apply pw_below_drewN | apply below_drew1 | refine below_set ?_ GE645.out) | exact HB.out)) hb); clear HO650; clear HO653; clear HO656; clear HO661; clear BK645; clear HB; have HO650 := n0_; have HO653 := n1_; have HO656 := n2_; have HO661 := n3_; have BK645 := n4_; have HB := n5_; clear n0_ n1_ n2_ n3_ n4_ n5_; (try clear hb); (try clear hb2); (try clear hk); (try clear hi); have hcz33_0 : w32.cell? ⟨gb645, 0, none⟩ = some (.slice A0_0 l0_0.length c0_0) := (blk_cell BK645.out 0).trans rfl; have hcz33_1 : w32.cell? ⟨gb645, 1, none⟩ = some (.slice A0_1 l0_1.length c0_1) := (blk_cell BK645.out 1).trans rfl; have hcz33_2 : w32.cell? ⟨gb645, 2, none⟩ = some (.slice A0_2 l0_2.length c0_2) := (blk_cell BK645.out 2).trans rfl; have hcz33_3 : w32.cell? ⟨gb645, 3, none⟩ = some (.int .i64 a0_3) := (blk_cell BK645.out 3).trans rfl; have hcz33_4 : w32.cell? ⟨gb645, 4, none⟩ = some (.int .i64 a0_4) := (blk_cell BK645.out 4).trans rfl; have hfz33_0 := blk_frozen BK645.out 0; have hfz33_1 := blk_frozen BK645.out 1; have hfz33_2 := blk_frozen BK645.out 2; have hfz33_3 := blk_frozen BK645.out 3; have hfz33_4 := blk_frozen BK645.out 4) | ((with_reducible refine gate_callee (f := 16) rfl ?_); refine goesL_ (some 34) rfl rfl Try.func16 (by kernel_rfl) rfl #[.agg #[.slice A0_0 l0_0.length c0_0, .slice A0_1 l0_1.length c0_1, .slice A0_2 l0_2.length c0_2, .int .i64 a0_3, .int .i64 a0_4]] rfl (by (try simp only [List.map_toArray, List.map_cons, List.map_nil]); first | done | rfl) ?_; (with_reducible refine (laws_toHead.calls k _ _ l0_0 _ _ l0_1 _ _ l0_2 a0_3 a0_4 t665 t668 t671 t674 t675 _ ?side1 ?side2 ?side3 ?side4 ?side5 ?side6 A17.out).mono ?_); (case side1 => repeat (first | exact (Kd.C_below HR0_0.out HB.out) | (with_reducible first | refine Kd.C_alloc ?_ _ | refine Kd.C_drewN ?_ _ | refine Kd.C_drew ?_))); (case side2 => exact HC0_0.out); (case side3 => repeat (first | exact (Kd.C_below HR0_1.out HB.out) | (with_reducible first | refine Kd.C_alloc ?_ _ | refine Kd.C_drewN ?_ _ | refine Kd.C_drew ?_))); (case side4 => exact HC0_1.out); (case side5 => repeat (first | exact (Kd.C_below HR0_2.out HB.out) | (with_reducible first | refine Kd.C_alloc ?_ _ | refine Kd.C_drewN ?_ _ | refine Kd.C_drew ?_))); (case side6 => exact HC0_2.out); rintro e w34 ⟨v666, v669, v672, rfl, ho0, ho1, ho2, hb⟩; refine ⟨_, rfl, ?_⟩; have n0_ := Aside0.mk (Kd.R_elder' (by (with_reducible repeat (first | apply Kd.R_alloc | apply Kd.R_drewN | apply Kd.R_drew)); exact HO650.out) (Kd.R_base ho0) hb); have n1_ := Aside0.mk (Kd.R_mono (Kd.R_told (Kd.R_told (Kd.R_old (by (with_reducible repeat (first | apply Kd.R_alloc | apply Kd.R_drewN | apply Kd.R_drew)); exact HO653.out) hb) (Kd.R_base ho1)) (Kd.R_base ho2)) (fun _ h_ => h_.1)); have n2_ := Aside0.mk (Kd.R_mono (Kd.R_told (Kd.R_told (Kd.R_old (by (with_reducible repeat (first | apply Kd.R_alloc | apply Kd.R_drewN | apply Kd.R_drew)); exact HO656.out) hb) (Kd.R_base ho1)) (Kd.R_base ho2)) (fun _ h_ => h_.1)); have n3_ := Aside0.mk (Kd.S_mono (Kd.S_told (Kd.S_told (Kd.S_old (by (with_reducible repeat (first | apply Kd.S_alloc | apply Kd.S_drewN | apply Kd.S_drew)); exact HO661.out) hb) (Kd.R_base ho1)) (Kd.R_base ho2)) (fun _ h_ => h_.1)); have n4_ := Aside0.mk (Kd.R_lower (Kd.R_new' ho0 (Kd.R_lt (by (with_reducible repeat (first | apply Kd.R_alloc | apply Kd.R_drewN | apply Kd.R_drew)); exact HO650.out))) (below_size (by repeat (first | (with_reducible first | exact HB.out | apply below_alloc | apply pw_below_drewN | apply below_drew1 | refine below_set ?_ GE645.out) | exact HB.out)))); have n5_ := Aside0.mk (Kd.R_lower (Kd.R_new' (Kd.R_new' ho1 (Kd.R_lt (by (with_reducible repeat (first | apply Kd.R_alloc | apply Kd.R_drewN | apply Kd.R_drew)); exact HO653.out))) (Kd.R_lt (by (with_reducible repeat (first | apply Kd.R_alloc | apply Kd.R_drewN | apply Kd.R_drew)); exact HO656.out))) (below_size (by repeat (first | (with_reducible first | exact HB.out | apply below_alloc | apply pw_below_drewN | apply below_drew1 | refine below_set ?_ GE645.out) | exact HB.out)))); have n6_ := Aside0.mk (Kd.R_lower (Kd.R_new' (Kd.R_new' ho2 (Kd.R_lt (by (with_reducible repeat (first | apply Kd.R_alloc | apply Kd.R_drewN | apply Kd.R_drew)); exact HO653.out))) (Kd.R_lt (by (with_reducible repeat (first | apply Kd.R_alloc | apply Kd.R_drewN | apply Kd.R_drew)); exact HO656.out))) (below_size (by repeat (first | (with_reducible first | exact HB.out | apply below_alloc | apply pw_below_drewN | apply below_drew1 | refine below_set ?_ GE645.out) | exact HB.out)))); have n7_ := Aside0.mk (blk_below (g := gb645) (o := .cells #[.slice A0_0 l0_0.length c0_0, .slice A0_1 l0_1.length c0_1, .slice A0_2 l0_2.length c0_2, .int .i64 a0_3, .int .i64 a0_4] 25 (0, 0)) (by (with_reducible repeat (first | refine blk_drewN ?_ _ | refine blk_drew ?_ | refine blk_alloc ?_ _)); exact BK645.out) hb); have n8_ := Aside0.mk (below_step (by repeat (first | (with_reducible first | exact HB.out | apply below_alloc | apply pw_below_drewN | apply below_drew1 | refine below_set ?_ GE645.out) | exact HB.out)) hb); clear HO650; clear HO653; clear HO656; clear HO661; clear BK645; clear HB; have HO650 := n0_; have HO653 := n1_; have HO656 := n2_; have HO661 := n3_; have HO667 := n4_; have HO670 := n5_; have HO673 := n6_; have BK645 := n7_; have HB := n8_; clear n0_ n1_ n2_ n3_ n4_ n5_ n6_ n7_ n8_; (try clear hb); (try clear hb2); (try clear hk); (try clear hi); (try clear ho0); (try clear ho1); (try clear ho2)) | ((with_reducible refine gate_dst (N := 9) rfl ?_); refine box_event ?hg (N := 9) ?hd (cs := #[.slice none 0 0, .slice none 0 0, .slice none 0 0, .int .i64 0, .int .i64 0]) (t := 33) ?hr ?_; (case hd => rfl); (case hg => rfl); (case hr => first | (go_simp; done) | (go_simp; rfl)); intro gb676 hg w35 hbox hb; have n0_ := Aside0.mk (Kd.R_below (by (with_reducible repeat (first | apply Kd.R_alloc | apply Kd.R_drewN | apply Kd.R_drew)); exact HO650.out) hb); have n1_ := Aside0.mk (Kd.R_below (by (with_reducible repeat (first | apply Kd.R_alloc | apply Kd.R_drewN | apply Kd.R_drew)); exact HO653.out) hb); have n2_ := Aside0.mk (Kd.R_below (by (with_reducible repeat (first | apply Kd.R_alloc | apply Kd.R_drewN | apply Kd.R_drew)); exact HO656.out) hb); have n3_ := Aside0.mk (Kd.S_below (by (with_reducible repeat (first | apply Kd.S_alloc | apply Kd.S_drewN | apply Kd.S_drew)); exact HO661.out) hb); have n4_ := Aside0.mk (Kd.R_below (by (with_reducible repeat (first | apply Kd.R_alloc | apply Kd.R_drewN | apply Kd.R_drew)); exact HO667.out) hb); have n5_ := Aside0.mk (Kd.R_below (by (with_reducible repeat (first | apply Kd.R_alloc | apply Kd.R_drewN | apply Kd.R_drew)); exact HO670.out) hb); have n6_ := Aside0.mk (Kd.R_below (by (with_reducible repeat (first | apply Kd.R_alloc | apply Kd.R_drewN | apply Kd.R_drew)); exact HO673.out) hb); have n7_ := Aside0.mk (blk_below (g := gb645) (o := .cells #[.slice A0_0 l0_0.length c0_0, .slice A0_1 l0_1.length c0_1, .slice A0_2 l0_2.length c0_2, .int .i64 a0_3, .int .i64 a0_4] 25 (0, 0)) (by (with_reducible repeat (first | refine blk_drewN ?_ _ | refine blk_drew ?_ | refine blk_alloc ?_ _)); exact BK645.out) hb); have n8_ := Aside0.mk (below_step (by repeat (first | (with_reducible first | exact HB.out | apply below_alloc | apply pw_below_drewN | apply below_drew1 | refine below_set ?_ GE645.out) | exact HB.out)) hb); have n9_ := Aside0.mk (hbox); have n10_ := Aside0.mk ((by rw [hg]; exact (below_size (by repeat (first | (with_reducible first | exact HB.out | apply below_alloc | apply pw_below_drewN | apply below_drew1 | refine below_set ?_ GE645.out) | exact HB.out))) : w.heap.size ≤ gb676)); have n11_ := Aside0.mk ((by rw [hg]; exact (below_size (by repeat (first | (with_reducible first | exact HB.out | apply below_alloc | apply pw_below_drewN | apply below_drew1 | refine below_set ?_ GE645.out) | exact HB.out))) : w.heap.size ≤ gb676)); have n12_ := Aside0.mk ((by rw [hg]; exact Nat.ne_of_lt (blk_lt (g := gb645) (o := .cells #[.slice A0_0 l0_0.length c0_0, .slice A0_1 l0_1.length c0_1, .slice A0_2 l0_2.length c0_2, .int .i64 a0_3, .int .i64 a0_4] 25 (0, 0)) (by (with_reducible repeat (first | refine blk_drewN ?_ _ | refine blk_drew ?_ | refine blk_alloc ?_ _)); exact BK645.out)) : gb645 ≠ gb676)); have n13_ := Aside0.mk ((by rw [hg]; exact Nat.ne_of_gt (blk_lt (g := gb645) (o := .cells #[.slice A0_0 l0_0.length c0_0, .slice A0_1 l0_1.length c0_1, .slice A0_2 l0_2.length c0_2, .int .i64 a0_3, .int .i64 a0_4] 25 (0, 0)) (by (with_reducible repeat (first | refine blk_drewN ?_ _ | refine blk_drew ?_ | refine blk_alloc ?_ _)); exact BK645.out)) : gb676 ≠ gb645)); clear HO650; clear HO653; clear HO656; clear HO661; clear HO667; clear HO670; clear HO673; clear BK645; clear HB; have HO650 := n0_; have HO653 := n1_; have HO656 := n2_; have HO661 := n3_; have HO667 := n4_; have HO670 := n5_; have HO673 := n6_; have BK645 := n7_; have HB := n8_; have BK676 := n9_; have GW676 := n10_; have GE676 := n11_; have NB645_676 := n12_; have NB676_645 := n13_; clear n0_ n1_ n2_ n3_ n4_ n5_ n6_ n7_ n8_ n9_ n10_ n11_ n12_ n13_; clear hb hbox hg; obtain ⟨Ao36, co36, eo36⟩ := Kd.R_slice HO667.out; subst eo36; have hnb37 := NB676_645.out; have hnc37 := NB645_676.out; have hcz38_0 : w35.cell? ⟨gb676, 0, none⟩ = some (.slice none 0 0) := (blk_cell BK676.out 0).trans rfl; have hcz38_1 : w35.cell? ⟨gb676, 1, none⟩ = some (.slice none 0 0) := (blk_cell BK676.out 1).trans rfl; have hcz38_2 : w35.cell? ⟨gb676, 2, none⟩ = some (.slice none 0 0) := (blk_cell BK676.out 2).trans rfl; have hcz38_3 : w35.cell? ⟨gb676, 3, none⟩ = some (.int .i64 0) := (blk_cell BK676.out 3).trans rfl; have hcz38_4 : w35.cell? ⟨gb676, 4, none⟩ = some (.int .i64 0) := (blk_cell BK676.out 4).trans rfl; have hfz38_0 := blk_frozen BK676.out 0; have hfz38_1 := blk_frozen BK676.out 1; have hfz38_2 := blk_frozen BK676.out 2; have hfz38_3 := blk_frozen BK676.out 3; have hfz38_4 := blk_frozen BK676.out 4; obtain ⟨Ao39, co39, eo39⟩ := Kd.R_slice HO670.out; subst eo39; obtain ⟨Ao40, co40, eo40⟩ := Kd.R_slice HO673.out; subst eo40) | ((with_reducible refine gate_callee (f := 17) rfl ?_); refine goesL_ (some 36) rfl rfl Try.func17 (by kernel_rfl) rfl #[.slice A1 l1.length c1] rfl (by (try simp only [List.map_toArray, List.map_cons, List.map_nil]); first | done | rfl) ?_; (with_reducible refine (laws_toStopS.calls k _ _ l1 t677 _ ?side1 ?side2 A18.out).mono ?_); (case side1 => exact Kd.C_below HR1.out (by repeat (first | (with_reducible first | exact HB.out | apply below_alloc | apply pw_below_drewN | apply below_drew1 | refine below_set ?_ GE645.out | refine below_set ?_ GE676.out) | exact HB.out))); (case side2 => exact HC1.out); rintro e w41 ⟨v678, rfl, ho0, hb⟩; refine ⟨_, rfl, ?_⟩; have n0_ := Aside0.mk (Kd.R_below (by (with_reducible repeat (first | apply Kd.R_alloc | apply Kd.R_drewN | apply Kd.R_drew)); exact (Kd.R_mono (Kd.R_far (p := ⟨gb676, 4, none⟩) (Kd.R_far (p := ⟨gb676, 3, none⟩) (Kd.R_far (p := ⟨gb676, 2, none⟩) (Kd.R_far (p := ⟨gb676, 1, none⟩) (Kd.R_far (p := ⟨gb676, 0, none⟩) (Kd.R_types HO650.out BK676.out (by decide)) (fun _ hk => hk.2) (.slice Ao36 t665.length co36)) (fun _ hk => hk.2) (.slice Ao39 t668.length co39)) (fun _ hk => hk.2) (.slice Ao40 t671.length co40)) (fun _ hk => hk.2) (.int .i64 t674)) (fun _ hk => hk.2) (.int .i64 t675)) (fun _ h_ => h_.1))) hb); have n1_ := Aside0.mk (Kd.R_below (by (with_reducible repeat (first | apply Kd.R_alloc | apply Kd.R_drewN | apply Kd.R_drew)); exact (Kd.R_mono (Kd.R_far (p := ⟨gb676, 4, none⟩) (Kd.R_far (p := ⟨gb676, 3, none⟩) (Kd.R_far (p := ⟨gb676, 2, none⟩) (Kd.R_far (p := ⟨gb676, 1, none⟩) (Kd.R_far (p := ⟨gb676, 0, none⟩) (Kd.R_types HO653.out BK676.out (by decide)) (fun _ hk => hk.2) (.slice Ao36 t665.length co36)) (fun _ hk => hk.2) (.slice Ao39 t668.length co39)) (fun _ hk => hk.2) (.slice Ao40 t671.length co40)) (fun _ hk => hk.2) (.int .i64 t674)) (fun _ hk => hk.2) (.int .i64 t675)) (fun _ h_ => h_.1))) hb); have n2_ := Aside0.mk (Kd.R_below (by (with_reducible repeat (first | apply Kd.R_alloc | apply Kd.R_drewN | apply Kd.R_drew)); exact (Kd.R_mono (Kd.R_far (p := ⟨gb676, 4, none⟩) (Kd.R_far (p := ⟨gb676, 3, none⟩) (Kd.R_far (p := ⟨gb676, 2, none⟩) (Kd.R_far (p := ⟨gb676, 1, none⟩) (Kd.R_far (p := ⟨gb676, 0, none⟩) (Kd.R_types HO656.out BK676.out (by decide)) (fun _ hk => hk.2) (.slice Ao36 t665.length co36)) (fun _ hk => hk.2) (.slice Ao39 t668.length co39)) (fun _ hk => hk.2) (.slice Ao40 t671.length co40)) (fun _ hk => hk.2) (.int .i64 t674)) (fun _ hk => hk.2) (.int .i64 t675)) (fun _ h_ => h_.1))) hb); have n3_ := Aside0.mk (Kd.S_elder' (by (with_reducible repeat (first | apply Kd.S_alloc | apply Kd.S_drewN | apply Kd.S_drew)); exact (Kd.S_mono (Kd.S_far (p := ⟨gb676, 4, none⟩) (Kd.S_far (p := ⟨gb676, 3, none⟩) (Kd.S_far (p := ⟨gb676, 2, none⟩) (Kd.S_far (p := ⟨gb676, 1, none⟩) (Kd.S_far (p := ⟨gb676, 0, none⟩) (Kd.S_types HO661.out BK676.out (by decide)) (fun _ hk => hk.2) (.slice Ao36 t665.length co36)) (fun _ hk => hk.2) (.slice Ao39 t668.length co39)) (fun _ hk => hk.2) (.slice Ao40 t671.length co40)) (fun _ hk => hk.2) (.int .i64 t674)) (fun _ hk => hk.2) (.int .i64 t675)) (fun _ h_ => h_.1))) (Kd.S_base ho0) hb); have n4_ := Aside0.mk (Kd.R_below (by (with_reducible repeat (first | apply Kd.R_alloc | apply Kd.R_drewN | apply Kd.R_drew)); exact (Kd.R_mono (Kd.R_far (p := ⟨gb676, 4, none⟩) (Kd.R_far (p := ⟨gb676, 3, none⟩) (Kd.R_far (p := ⟨gb676, 2, none⟩) (Kd.R_far (p := ⟨gb676, 1, none⟩) (Kd.R_far (p := ⟨gb676, 0, none⟩) (Kd.R_types HO667.out BK676.out (by decide)) (fun _ hk => hk.2) (.slice Ao36 t665.length co36)) (fun _ hk => hk.2) (.slice Ao39 t668.length co39)) (fun _ hk => hk.2) (.slice Ao40 t671.length co40)) (fun _ hk => hk.2) (.int .i64 t674)) (fun _ hk => hk.2) (.int .i64 t675)) (fun _ h_ => h_.1))) hb); have n5_ := Aside0.mk (Kd.R_below (by (with_reducible repeat (first | apply Kd.R_alloc | apply Kd.R_drewN | apply Kd.R_drew)); exact (Kd.R_mono (Kd.R_far (p := ⟨gb676, 4, none⟩) (Kd.R_far (p := ⟨gb676, 3, none⟩) (Kd.R_far (p := ⟨gb676, 2, none⟩) (Kd.R_far (p := ⟨gb676, 1, none⟩) (Kd.R_far (p := ⟨gb676, 0, none⟩) (Kd.R_types HO670.out BK676.out (by decide)) (fun _ hk => hk.2) (.slice Ao36 t665.length co36)) (fun _ hk => hk.2) (.slice Ao39 t668.length co39)) (fun _ hk => hk.2) (.slice Ao40 t671.length co40)) (fun _ hk => hk.2) (.int .i64 t674)) (fun _ hk => hk.2) (.int .i64 t675)) (fun _ h_ => h_.1))) hb); have n6_ := Aside0.mk (Kd.R_below (by (with_reducible repeat (first | apply Kd.R_alloc | apply Kd.R_drewN | apply Kd.R_drew)); exact (Kd.R_mono (Kd.R_far (p := ⟨gb676, 4, none⟩) (Kd.R_far (p := ⟨gb676, 3, none⟩) (Kd.R_far (p := ⟨gb676, 2, none⟩) (Kd.R_far (p := ⟨gb676, 1, none⟩) (Kd.R_far (p := ⟨gb676, 0, none⟩) (Kd.R_types HO673.out BK676.out (by decide)) (fun _ hk => hk.2) (.slice Ao36 t665.length co36)) (fun _ hk => hk.2) (.slice Ao39 t668.length co39)) (fun _ hk => hk.2) (.slice Ao40 t671.length co40)) (fun _ hk => hk.2) (.int .i64 t674)) (fun _ hk => hk.2) (.int .i64 t675)) (fun _ h_ => h_.1))) hb); have n7_ := Aside0.mk (Kd.S_lower (Kd.S_new' (Kd.S_new' (Kd.S_new' (Kd.S_new' (Kd.S_new' ho0 (Kd.R_lt (by (with_reducible repeat (first | apply Kd.R_alloc | apply Kd.R_drewN | apply Kd.R_drew)); exact (Kd.R_mono (Kd.R_far (p := ⟨gb676, 4, none⟩) (Kd.R_far (p := ⟨gb676, 3, none⟩) (Kd.R_far (p := ⟨gb676, 2, none⟩) (Kd.R_far (p := ⟨gb676, 1, none⟩) (Kd.R_far (p := ⟨gb676, 0, none⟩) (Kd.R_types HO653.out BK676.out (by decide)) (fun _ hk => hk.2) (.slice Ao36 t665.length co36)) (fun _ hk => hk.2) (.slice Ao39 t668.length co39)) (fun _ hk => hk.2) (.slice Ao40 t671.length co40)) (fun _ hk => hk.2) (.int .i64 t674)) (fun _ hk => hk.2) (.int .i64 t675)) (fun _ h_ => h_.1))))) (Kd.R_lt (by (with_reducible repeat (first | apply Kd.R_alloc | apply Kd.R_drewN | apply Kd.R_drew)); exact (Kd.R_mono (Kd.R_far (p := ⟨gb676, 4, none⟩) (Kd.R_far (p := ⟨gb676, 3, none⟩) (Kd.R_far (p := ⟨gb676, 2, none⟩) (Kd.R_far (p := ⟨gb676, 1, none⟩) (Kd.R_far (p := ⟨gb676, 0, none⟩) (Kd.R_types HO656.out BK676.out (by decide)) (fun _ hk => hk.2) (.slice Ao36 t665.length co36)) (fun _ hk => hk.2) (.slice Ao39 t668.length co39)) (fun _ hk => hk.2) (.slice Ao40 t671.length co40)) (fun _ hk => hk.2) (.int .i64 t674)) (fun _ hk => hk.2) (.int .i64 t675)) (fun _ h_ => h_.1))))) (Kd.S_lt (by (with_reducible repeat (first | apply Kd.S_alloc | apply Kd.S_drewN | apply Kd.S_drew)); exact (Kd.S_mono (Kd.S_far (p := ⟨gb676, 4, none⟩) (Kd.S_far (p := ⟨gb676, 3, none⟩) (Kd.S_far (p := ⟨gb676, 2, none⟩) (Kd.S_far (p := ⟨gb676, 1, none⟩) (Kd.S_far (p := ⟨gb676, 0, none⟩) (Kd.S_types HO661.out BK676.out (by decide)) (fun _ hk => hk.2) (.slice Ao36 t665.length co36)) (fun _ hk => hk.2) (.slice Ao39 t668.length co39)) (fun _ hk => hk.2) (.slice Ao40 t671.length co40)) (fun _ hk => hk.2) (.int .i64 t674)) (fun _ hk => hk.2) (.int .i64 t675)) (fun _ h_ => h_.1))))) (Kd.R_lt (by (with_reducible repeat (first | apply Kd.R_alloc | apply Kd.R_drewN | apply Kd.R_drew)); exact (Kd.R_mono (Kd.R_far (p := ⟨gb676, 4, none⟩) (Kd.R_far (p := ⟨gb676, 3, none⟩) (Kd.R_far (p := ⟨gb676, 2, none⟩) (Kd.R_far (p := ⟨gb676, 1, none⟩) (Kd.R_far (p := ⟨gb676, 0, none⟩) (Kd.R_types HO670.out BK676.out (by decide)) (fun _ hk => hk.2) (.slice Ao36 t665.length co36)) (fun _ hk => hk.2) (.slice Ao39 t668.length co39)) (fun _ hk => hk.2) (.slice Ao40 t671.length co40)) (fun _ hk => hk.2) (.int .i64 t674)) (fun _ hk => hk.2) (.int .i64 t675)) (fun _ h_ => h_.1))))) (Kd.R_lt (by (with_reducible repeat (first | apply Kd.R_alloc | apply Kd.R_drewN | apply Kd.R_drew)); exact (Kd.R_mono (Kd.R_far (p := ⟨gb676, 4, none⟩) (Kd.R_far (p := ⟨gb676, 3, none⟩) (Kd.R_far (p := ⟨gb676, 2, none⟩) (Kd.R_far (p := ⟨gb676, 1, none⟩) (Kd.R_far (p := ⟨gb676, 0, none⟩) (Kd.R_types HO673.out BK676.out (by decide)) (fun _ hk => hk.2) (.slice Ao36 t665.length co36)) (fun _ hk => hk.2) (.slice Ao39 t668.length co39)) (fun _ hk => hk.2) (.slice Ao40 t671.length co40)) (fun _ hk => hk.2) (.int .i64 t674)) (fun _ hk => hk.2) (.int .i64 t675)) (fun _ h_ => h_.1))))) (below_size (by repeat (first | (with_reducible first | exact HB.out | apply below_alloc | apply pw_below_drewN | apply below_drew1 | refine below_set ?_ GE645.out | refine below_set ?_ GE676.out) | exact HB.out)))); have n8_ := Aside0.mk (blk_below (g := gb645) (o := .cells #[.slice A0_0 l0_0.length c0_0, .slice A0_1 l0_1.length c0_1, .slice A0_2 l0_2.length c0_2, .int .i64 a0_3, .int .i64 a0_4] 25 (0, 0)) (by (with_reducible repeat (first | refine blk_drewN ?_ _ | refine blk_drew ?_ | refine blk_alloc ?_ _)); refine blk_far ?_ NB645_676.out _; (with_reducible repeat (first | refine blk_drewN ?_ _ | refine blk_drew ?_ | refine blk_alloc ?_ _)); refine blk_far ?_ NB645_676.out _; (with_reducible repeat (first | refine blk_drewN ?_ _ | refine blk_drew ?_ | refine blk_alloc ?_ _)); refine blk_far ?_ NB645_676.out _; (with_reducible repeat (first | refine blk_drewN ?_ _ | refine blk_drew ?_ | refine blk_alloc ?_ _)); refine blk_far ?_ NB645_676.out _; (with_reducible repeat (first | refine blk_drewN ?_ _ | refine blk_drew ?_ | refine blk_alloc ?_ _)); refine blk_far ?_ NB645_676.out _; (with_reducible repeat (first | refine blk_drewN ?_ _ | refine blk_drew ?_ | refine blk_alloc ?_ _)); exact BK645.out) hb); have n9_ := Aside0.mk (blk_below (g := gb676) (o := .cells #[.slice Ao36 t665.length co36, .slice Ao39 t668.length co39, .slice Ao40 t671.length co40, .int .i64 t674, .int .i64 t675] 33 (0, 0)) (by (with_reducible repeat (first | refine blk_drewN ?_ _ | refine blk_drew ?_ | refine blk_alloc ?_ _)); refine blk_put (cs := #[.slice Ao36 t665.length co36, .slice Ao39 t668.length co39, .slice Ao40 t671.length co40, .int .i64 t674, .int .i64 0]) ?_ 4 _ rfl; (with_reducible repeat (first | refine blk_drewN ?_ _ | refine blk_drew ?_ | refine blk_alloc ?_ _)); refine blk_put (cs := #[.slice Ao36 t665.length co36, .slice Ao39 t668.length co39, .slice Ao40 t671.length co40, .int .i64 0, .int .i64 0]) ?_ 3 _ rfl; (with_reducible repeat (first | refine blk_drewN ?_ _ | refine blk_drew ?_ | refine blk_alloc ?_ _)); refine blk_put (cs := #[.slice Ao36 t665.length co36, .slice Ao39 t668.length co39, .slice none 0 0, .int .i64 0, .int .i64 0]) ?_ 2 _ rfl; (with_reducible repeat (first | refine blk_drewN ?_ _ | refine blk_drew ?_ | refine blk_alloc ?_ _)); refine blk_put (cs := #[.slice Ao36 t665.length co36, .slice none 0 0, .slice none 0 0, .int .i64 0, .int .i64 0]) ?_ 1 _ rfl; (with_reducible repeat (first | refine blk_drewN ?_ _ | refine blk_drew ?_ | refine blk_alloc ?_ _)); refine blk_put (cs := #[.slice none 0 0, .slice none 0 0, .slice none 0 0, .int .i64 0, .int .i64 0]) ?_ 0 _ rfl; (with_reducible repeat (first | refine blk_drewN ?_ _ | refine blk_drew ?_ | refine blk_alloc ?_ _)); exact BK676.out) hb); have n10_ := Aside0.mk (below_step (by repeat (first | (with_reducible first | exact HB.out | apply below_alloc | apply pw_below_drewN | apply below_drew1 | refine below_set ?_ GE645.out | refine below_set ?_ GE676.out) | exact HB.out)) hb); clear HO650; clear HO653; clear HO656; clear HO661; clear HO667; clear HO670; clear HO673; clear BK645; clear BK676; clear HB; have HO650 := n0_; have HO653 := n1_; have HO656 := n2_; have HO661 := n3_; have HO667 := n4_; have HO670 := n5_; have HO673 := n6_; have HO679 := n7_; have BK645 := n8_; have BK676 := n9_; have HB := n10_; clear n0_ n1_ n2_ n3_ n4_ n5_ n6_ n7_ n8_ n9_ n10_; (try clear hb); (try clear hb2); (try clear hk); (try clear hi); (try clear ho0); have hcz42_0 : w41.cell? ⟨gb676, 0, none⟩ = some (.slice Ao36 t665.length co36) := (blk_cell BK676.out 0).trans rfl; have hcz42_1 : w41.cell? ⟨gb676, 1, none⟩ = some (.slice Ao39 t668.length co39) := (blk_cell BK676.out 1).trans rfl; have hcz42_2 : w41.cell? ⟨gb676, 2, none⟩ = some (.slice Ao40 t671.length co40) := (blk_cell BK676.out 2).trans rfl; have hcz42_3 : w41.cell? ⟨gb676, 3, none⟩ = some (.int .i64 t674) := (blk_cell BK676.out 3).trans rfl; have hcz42_4 : w41.cell? ⟨gb676, 4, none⟩ = some (.int .i64 t675) := (blk_cell BK676.out 4).trans rfl; have hfz42_0 := blk_frozen BK676.out 0; have hfz42_1 := blk_frozen BK676.out 1; have hfz42_2 := blk_frozen BK676.out 2; have hfz42_3 := blk_frozen BK676.out 3; have hfz42_4 := blk_frozen BK676.out 4; obtain ⟨Ao43, co43, eo43⟩ := Kd.S_slice HO679.out; subst eo43) | ((with_reducible refine gate_callee (f := 41) rfl ?_); refine goesL_ (some 40) rfl rfl Try.func41 (by kernel_rfl) rfl #[.agg #[.slice Ao36 t665.length co36, .slice Ao39 t668.length co39, .slice Ao40 t671.length co40, .int .i64 t674, .int .i64 t675], .slice Ao43 t677.length co43] rfl (by (try simp only [List.map_toArray, List.map_cons, List.map_nil]); first | done | rfl) ?_; (with_reducible refine (impl_FirstFailure.calls k _ _ t665 _ _ t668 _ _ t671 t674 t675 _ _ t677 t680 t681 t682 _ ?side1 ?side2 ?side3 ?side4 ?side5 ?side6 ?side7 ?side8 A19.out).mono ?_); (case side1 => repeat (first | exact (Kd.R_reads' HO667.out).2.2 | (with_reducible first | refine Kd.C_alloc ?_ _ | refine Kd.C_drewN ?_ _ | refine Kd.C_drew ?_))); (case side2 => exact (Kd.R_reads' HO667.out).2.1); (case side3 => repeat (first | exact (Kd.R_reads' HO670.out).2.2 | (with_reducible first | refine Kd.C_alloc ?_ _ | refine Kd.C_drewN ?_ _ | refine Kd.C_drew ?_))); (case side4 => exact (Kd.R_reads' HO670.out).2.1); (case side5 => repeat (first | exact (Kd.R_reads' HO673.out).2.2 | (with_reducible first | refine Kd.C_alloc ?_ _ | refine Kd.C_drewN ?_ _ | refine Kd.C_drew ?_))); (case side6 => exact (Kd.R_reads' HO673.out).2.1); (case side7 => repeat (first | exact (Kd.S_reads' HO679.out).2.2 | (with_reducible first | refine Kd.C_alloc ?_ _ | refine Kd.C_drewN ?_ _ | refine Kd.C_drew ?_))); (case side8 => exact (Kd.S_reads' HO679.out).2.1); rintro e w44 ⟨rfl, hb⟩; refine ⟨_, rfl, ?_⟩; have n0_ := Aside0.mk (Kd.R_below (by (with_reducible repeat (first | apply Kd.R_alloc | apply Kd.R_drewN | apply Kd.R_drew)); exact HO650.out) hb); have n1_ := Aside0.mk (Kd.R_below (by (with_reducible repeat (first | apply Kd.R_alloc | apply Kd.R_drewN | apply Kd.R_drew)); exact HO653.out) hb); have n2_ := Aside0.mk (Kd.R_below (by (with_reducible repeat (first | apply Kd.R_alloc | apply Kd.R_drewN | apply Kd.R_drew)); exact HO656.out) hb); have n3_ := Aside0.mk (Kd.S_below (by (with_reducible repeat (first | apply Kd.S_alloc | apply Kd.S_drewN | apply Kd.S_drew)); exact HO661.out) hb); have n4_ := Aside0.mk (Kd.R_below (by (with_reducible repeat (first | apply Kd.R_alloc | apply Kd.R_drewN | apply Kd.R_drew)); exact HO667.out) hb); have n5_ := Aside0.mk (Kd.R_below (by (with_reducible repeat (first | apply Kd.R_alloc | apply Kd.R_drewN | apply Kd.R_drew)); exact HO670.out) hb); have n6_ := Aside0.mk (Kd.R_below (by (with_reducible repeat (first | apply Kd.R_alloc | apply Kd.R_drewN | apply Kd.R_drew)); exact HO673.out) hb); have n7_ := Aside0.mk (Kd.S_below (by (with_reducible repeat (first | apply Kd.S_alloc | apply Kd.S_drewN | apply Kd.S_drew)); exact HO679.out) hb); have n8_ := Aside0.mk (blk_below (g := gb645) (o := .cells #[.slice A0_0 l0_0.length c0_0, .slice A0_1 l0_1.length c0_1, .slice A0_2 l0_2.length c0_2, .int .i64 a0_3, .int .i64 a0_4] 25 (0, 0)) (by (with_reducible repeat (first | refine blk_drewN ?_ _ | refine blk_drew ?_ | refine blk_alloc ?_ _)); exact BK645.out) hb); have n9_ := Aside0.mk (blk_below (g := gb676) (o := .cells #[.slice Ao36 t665.length co36, .slice Ao39 t668.length co39, .slice Ao40 t671.length co40, .int .i64 t674, .int .i64 t675] 33 (0, 0)) (by (with_reducible repeat (first | refine blk_drewN ?_ _ | refine blk_drew ?_ | refine blk_alloc ?_ _)); exact BK676.out) hb); have n10_ := Aside0.mk (below_step (by repeat (first | (with_reducible first | exact HB.out | apply below_alloc | apply pw_below_drewN | apply below_drew1 | refine below_set ?_ GE645.out | refine below_set ?_ GE676.out) | exact HB.out)) hb); clear HO650; clear HO653; clear HO656; clear HO661; clear HO667; clear HO670; clear HO673; clear HO679; clear BK645; clear BK676; clear HB; have HO650 := n0_; have HO653 := n1_; have HO656 := n2_; have HO661 := n3_; have HO667 := n4_; have HO670 := n5_; have HO673 := n6_; have HO679 := n7_; have BK645 := n8_; have BK676 := n9_; have HB := n10_; clear n0_ n1_ n2_ n3_ n4_ n5_ n6_ n7_ n8_ n9_ n10_; (try clear hb); (try clear hb2); (try clear hk); (try clear hi)))
   (try simp only [Act.put, qa_, qz_, qs_])
   go_cut [56] (fun v56 wc => ∃ (kq : Nat) (x56_19 : Bool), v56 = .bool x56_19 ∧ Aside0 (laws_FnExactFirstFailure.j0 kq l1 t677 x56_19 l0_0 l0_1 l0_2 a0_3 a0_4 t665 t668 t671 t674 t675 = some r) ∧ Aside0 (kq ≤ k) ∧ Aside0 (Kd.S k106 106 wc w.heap.size (fun k_ => some k_ ≠ ((.slice Ao39 t668.length co39) : Value).ownBlock ∧ some k_ ≠ ((.slice Ao40 t671.length co40) : Value).ownBlock) (.slice Ao43 t677.length co43) t677) ∧ Aside0 (Kd.R k154 154 wc w.heap.size (fun _ => True) (.slice Ao36 t665.length co36) t665) ∧ Aside0 (Kd.R (Kd.int .i64) 2 wc w.heap.size (fun k_ => some k_ ≠ ((.slice Ao40 t671.length co40) : Value).ownBlock) (.slice Ao39 t668.length co39) t668) ∧ Aside0 (Kd.R (Kd.int .i64) 2 wc w.heap.size (fun k_ => some k_ ≠ ((.slice Ao39 t668.length co39) : Value).ownBlock) (.slice Ao40 t671.length co40) t671) ∧ Aside0 (wc.heap[gb645]? = some (.cells #[(.slice A0_0 l0_0.length c0_0), (.slice A0_1 l0_1.length c0_1), (.slice A0_2 l0_2.length c0_2), .int .i64 a0_3, .int .i64 a0_4] 25 (0, 0))) ∧ Aside0 (wc.heap[gb676]? = some (.cells #[(.slice Ao36 t665.length co36), (.slice Ao39 t668.length co39), (.slice Ao40 t671.length co40), .int .i64 t674, .int .i64 t675] 33 (0, 0))) ∧ Aside0 (Below w.heap.size w wc))
   case first =>
    have H := HC20.out
    clear HC20
    by_cases c45 : t680 = t662
    ·rw [if_pos c45] at H
     have c45b0 : (t680 == t662) = true := beq_iff_eq.mpr c45
     have c45b1 : (t680 != t662) = false := bne_eq_false_iff_eq.mpr c45
     clear c45
     (first | rw [c45b0] | (simp only [i64_w, i32_w]; rw [c45b0]) | skip)
     by_cases c46 : t681 = t663
     ·rw [if_pos c46] at H
      have c46b0 : (t681 == t663) = true := beq_iff_eq.mpr c46
      have c46b1 : (t681 != t663) = false := bne_eq_false_iff_eq.mpr c46
      clear c46
      have H' := Aside0.mk H
      clear H
      go_wp2
      go_meet
      case rel => exact ⟨_, ((t682 != t664)), (by first | rfl | (simp; done) | (simp [*]; done) | (simp [Int.tdiv_eq_ediv_of_nonneg, *]; done)), H', ⟨by first | omega | exact Nat.le_refl _⟩, ⟨by (with_reducible repeat (first | apply Kd.S_alloc | apply Kd.S_drewN | apply Kd.S_drew)); exact Kd.S_mono HO679.out (fun _ hk => ⟨hk.1.2, hk.2⟩)⟩, ⟨by (with_reducible repeat (first | apply Kd.R_alloc | apply Kd.R_drewN | apply Kd.R_drew)); exact Kd.R_mono HO667.out (fun _ hk => trivial)⟩, ⟨by (with_reducible repeat (first | apply Kd.R_alloc | apply Kd.R_drewN | apply Kd.R_drew)); exact Kd.R_mono HO670.out (fun _ hk => hk.1.1)⟩, ⟨by (with_reducible repeat (first | apply Kd.R_alloc | apply Kd.R_drewN | apply Kd.R_drew)); exact Kd.R_mono HO673.out (fun _ hk => hk.1.1)⟩, ⟨by (with_reducible repeat (first | refine blk_drewN ?_ _ | refine blk_drew ?_ | refine blk_alloc ?_ _)); exact BK645.out⟩, ⟨by (with_reducible repeat (first | refine blk_drewN ?_ _ | refine blk_drew ?_ | refine blk_alloc ?_ _)); exact BK676.out⟩, ⟨by repeat (first | (with_reducible first | exact HB.out | apply below_alloc | apply pw_below_drewN | apply below_drew1 | refine below_set ?_ GE645.out | refine below_set ?_ GE676.out) | exact HB.out)⟩⟩
     ·rw [if_neg c46] at H
      have c46b0 : (t681 == t663) = false := beq_eq_false_iff_ne.mpr c46
      have c46b1 : (t681 != t663) = true := bne_iff_ne.mpr c46
      have H' := Aside0.mk H
      clear H
      go_wp2
      go_meet
      case rel => exact ⟨_, (true), (by first | rfl | (simp; done) | (simp [*]; done) | (simp [Int.tdiv_eq_ediv_of_nonneg, *]; done)), H', ⟨by first | omega | exact Nat.le_refl _⟩, ⟨by (with_reducible repeat (first | apply Kd.S_alloc | apply Kd.S_drewN | apply Kd.S_drew)); exact Kd.S_mono HO679.out (fun _ hk => ⟨hk.1.2, hk.2⟩)⟩, ⟨by (with_reducible repeat (first | apply Kd.R_alloc | apply Kd.R_drewN | apply Kd.R_drew)); exact Kd.R_mono HO667.out (fun _ hk => trivial)⟩, ⟨by (with_reducible repeat (first | apply Kd.R_alloc | apply Kd.R_drewN | apply Kd.R_drew)); exact Kd.R_mono HO670.out (fun _ hk => hk.1.1)⟩, ⟨by (with_reducible repeat (first | apply Kd.R_alloc | apply Kd.R_drewN | apply Kd.R_drew)); exact Kd.R_mono HO673.out (fun _ hk => hk.1.1)⟩, ⟨by (with_reducible repeat (first | refine blk_drewN ?_ _ | refine blk_drew ?_ | refine blk_alloc ?_ _)); exact BK645.out⟩, ⟨by (with_reducible repeat (first | refine blk_drewN ?_ _ | refine blk_drew ?_ | refine blk_alloc ?_ _)); exact BK676.out⟩, ⟨by repeat (first | (with_reducible first | exact HB.out | apply below_alloc | apply pw_below_drewN | apply below_drew1 | refine below_set ?_ GE645.out | refine below_set ?_ GE676.out) | exact HB.out)⟩⟩
    ·rw [if_neg c45] at H
     have c45b0 : (t680 == t662) = false := beq_eq_false_iff_ne.mpr c45
     have c45b1 : (t680 != t662) = true := bne_iff_ne.mpr c45
     (first | rw [c45b0] | (simp only [i64_w, i32_w]; rw [c45b0]) | skip)
     have H' := Aside0.mk H
     clear H
     go_wp2
     go_meet
     case rel => exact ⟨_, (true), (by first | rfl | (simp; done) | (simp [*]; done) | (simp [Int.tdiv_eq_ediv_of_nonneg, *]; done)), H', ⟨by first | omega | exact Nat.le_refl _⟩, ⟨by (with_reducible repeat (first | apply Kd.S_alloc | apply Kd.S_drewN | apply Kd.S_drew)); exact Kd.S_mono HO679.out (fun _ hk => ⟨hk.1.2, hk.2⟩)⟩, ⟨by (with_reducible repeat (first | apply Kd.R_alloc | apply Kd.R_drewN | apply Kd.R_drew)); exact Kd.R_mono HO667.out (fun _ hk => trivial)⟩, ⟨by (with_reducible repeat (first | apply Kd.R_alloc | apply Kd.R_drewN | apply Kd.R_drew)); exact Kd.R_mono HO670.out (fun _ hk => hk.1.1)⟩, ⟨by (with_reducible repeat (first | apply Kd.R_alloc | apply Kd.R_drewN | apply Kd.R_drew)); exact Kd.R_mono HO673.out (fun _ hk => hk.1.1)⟩, ⟨by (with_reducible repeat (first | refine blk_drewN ?_ _ | refine blk_drew ?_ | refine blk_alloc ?_ _)); exact BK645.out⟩, ⟨by (with_reducible repeat (first | refine blk_drewN ?_ _ | refine blk_drew ?_ | refine blk_alloc ?_ _)); exact BK676.out⟩, ⟨by repeat (first | (with_reducible first | exact HB.out | apply below_alloc | apply pw_below_drewN | apply below_drew1 | refine below_set ?_ GE645.out | refine below_set ?_ GE676.out) | exact HB.out)⟩⟩
   case rest =>
    clear HC20
    try clear c1
    try clear p2
    try clear c3
    try clear c4
    try clear c4b0
    try clear c8
    try clear c9
    try clear c9b0
    try clear c13
    try clear c14
    try clear c16
    try clear c17
    try clear c37
    try clear c40
    try clear c41
    try clear c45
    try clear c45b0
    try clear c45b1
    try clear c46
    try clear c46b0
    try clear c46b1
    try clear hcz11_0
    try clear hcz11_1
    try clear hcz11_2
    try clear hcz11_3
    try clear hcz11_4
    try clear hcz22_0
    try clear hcz22_1
    try clear hcz22_2
    try clear hcz22_3
    try clear hcz22_4
    try clear hcz25_0
    try clear hcz25_1
    try clear hcz25_2
    try clear hcz25_3
    try clear hcz25_4
    try clear hcz33_0
    try clear hcz33_1
    try clear hcz33_2
    try clear hcz33_3
    try clear hcz33_4
    try clear hcz38_0
    try clear hcz38_1
    try clear hcz38_2
    try clear hcz38_3
    try clear hcz38_4
    try clear hcz42_0
    try clear hcz42_1
    try clear hcz42_2
    try clear hcz42_3
    try clear hcz42_4
    try clear hcz6_0
    try clear hcz6_1
    try clear hcz6_2
    try clear hcz6_3
    try clear hcz6_4
    try clear hfz11_0
    try clear hfz11_1
    try clear hfz11_2
    try clear hfz11_3
    try clear hfz11_4
    try clear hfz22_0
    try clear hfz22_1
    try clear hfz22_2
    try clear hfz22_3
    try clear hfz22_4
    try clear hfz25_0
    try clear hfz25_1
    try clear hfz25_2
    try clear hfz25_3
    try clear hfz25_4
    try clear hfz33_0
    try clear hfz33_1
    try clear hfz33_2
    try clear hfz33_3
    try clear hfz33_4
    try clear hfz38_0
    try clear hfz38_1
    try clear hfz38_2
    try clear hfz38_3
    try clear hfz38_4
    try clear hfz42_0
    try clear hfz42_1
    try clear hfz42_2
    try clear hfz42_3
    try clear hfz42_4
    try clear hfz6_0
    try clear hfz6_1
    try clear hfz6_2
    try clear hfz6_3
    try clear hfz6_4
    obtain ⟨kq, x56_19, rfl, HA, HJ19, HO_10, HO_677000, HO_677001, HO_677002, BK645, BK676, HB⟩ := hcut
    cases kq with
    | zero => exact absurd HA.out (by simp [laws_FnExactFirstFailure.j0])
    | succ kj19 =>
     have H := HA.out
     clear HA
     simp only [laws_FnExactFirstFailure.j0] at H
     by_cases c47 : x56_19 = true
     ·subst c47
      have H1 : (some false) = some r := by rw [if_pos rfl] at H; exact H
      clear H
      have H := H1
      clear H1
      exact absurd (Option.some.inj H) (by rw [hr_]; decide)
     ·replace c47 := Bool.eq_false_iff.mpr c47
      subst c47
      have H1 : ((laws_toHead.f kj19 l0_0 l0_1 l0_2 a0_3 a0_4).bind fun bt683 => ((laws_eqHead.f kj19 t665 t668 t671 t674 t675 bt683.1 bt683.2.1 bt683.2.2.1 bt683.2.2.2.1 bt683.2.2.2.2).bind fun t694 => (if t694 = true then ((laws_toStopS.f kj19 l1).bind fun t695 => ((laws_eqStopS.f kj19 t677 t695).bind fun t698 => (if t698 = true then (some true) else (some false)))) else (some false)))) = some r := by rw [if_neg (show ¬ (false = true) by decide)] at H; exact H
      clear H
      have H := H1
      clear H1
      replace H := Option.bind_eq_some_iff.mp H
      obtain ⟨⟨t683, t686, t689, t692, t693⟩, A480, H⟩ := H
      replace H : ((laws_eqHead.f kj19 t665 t668 t671 t674 t675 t683 t686 t689 t692 t693).bind fun t694 => (if t694 = true then ((laws_toStopS.f kj19 l1).bind fun t695 => ((laws_eqStopS.f kj19 t677 t695).bind fun t698 => (if t698 = true then (some true) else (some false)))) else (some false))) = some r := H
      have A48 := Aside0.mk A480
      clear A480
      replace H := Option.bind_eq_some_iff.mp H
      obtain ⟨t694, A490, H⟩ := H
      replace H : (if t694 = true then ((laws_toStopS.f kj19 l1).bind fun t695 => ((laws_eqStopS.f kj19 t677 t695).bind fun t698 => (if t698 = true then (some true) else (some false)))) else (some false)) = some r := H
      have A49 := Aside0.mk A490
      clear A490
      by_cases c50 : t694 = true
      ·subst c50
       have H1 : ((laws_toStopS.f kj19 l1).bind fun t695 => ((laws_eqStopS.f kj19 t677 t695).bind fun t698 => (if t698 = true then (some true) else (some false)))) = some r := by rw [if_pos rfl] at H; exact H
       clear H
       have H := H1
       clear H1
       replace H := Option.bind_eq_some_iff.mp H
       obtain ⟨t695, A510, H⟩ := H
       replace H : ((laws_eqStopS.f kj19 t677 t695).bind fun t698 => (if t698 = true then (some true) else (some false))) = some r := H
       have A51 := Aside0.mk A510
       clear A510
       replace H := Option.bind_eq_some_iff.mp H
       obtain ⟨t698, A520, H⟩ := H
       replace H : (if t698 = true then (some true) else (some false)) = some r := H
       have A52 := Aside0.mk A520
       clear A520
       by_cases c53 : t698 = true
       ·subst c53
        have H1 : (some true) = some r := by rw [if_pos rfl] at H; exact H
        clear H
        have H := H1
        clear H1
        obtain rfl := Option.some.inj H
        try go_wp2
        have n0_ := Aside0.mk (Kd.S_drew HO_10.out)
        have n1_ := Aside0.mk (Kd.R_drew HO_677000.out)
        have n2_ := Aside0.mk (Kd.R_drew HO_677001.out)
        have n3_ := Aside0.mk (Kd.R_drew HO_677002.out)
        have n4_ := Aside0.mk (blk_drew BK645.out)
        have n5_ := Aside0.mk (blk_drew BK676.out)
        have n6_ := Aside0.mk (below_drew1 HB.out)
        clear HO_10
        clear HO_677000
        clear HO_677001
        clear HO_677002
        clear BK645
        clear BK676
        clear HB
        have HO_10 := n0_
        have HO_677000 := n1_
        have HO_677001 := n2_
        have HO_677002 := n3_
        have BK645 := n4_
        have BK676 := n5_
        have HB := n6_
        clear n0_ n1_ n2_ n3_ n4_ n5_ n6_
        refine start_ (n := 5) (S := fun w' => w'.cell? ⟨gb676, 0, none⟩ = some (.slice Ao36 t665.length co36) ∧ w'.cell? ⟨gb676, 1, none⟩ = some (.slice Ao39 t668.length co39) ∧ w'.cell? ⟨gb676, 2, none⟩ = some (.slice Ao40 t671.length co40) ∧ w'.cell? ⟨gb676, 3, none⟩ = some (.int .i64 t674) ∧ w'.cell? ⟨gb676, 4, none⟩ = some (.int .i64 t675) ∧ w'.cell? ⟨gb645, 0, none⟩ = some (.slice A0_0 l0_0.length c0_0) ∧ w'.cell? ⟨gb645, 1, none⟩ = some (.slice A0_1 l0_1.length c0_1) ∧ w'.cell? ⟨gb645, 2, none⟩ = some (.slice A0_2 l0_2.length c0_2) ∧ w'.cell? ⟨gb645, 3, none⟩ = some (.int .i64 a0_3) ∧ w'.cell? ⟨gb645, 4, none⟩ = some (.int .i64 a0_4)) (ds := []) #[false, false, false, false, false] (by kernel_rfl) rfl rfl ⟨(blk_cell BK676.out 0).trans rfl, (blk_cell BK676.out 1).trans rfl, (blk_cell BK676.out 2).trans rfl, (blk_cell BK676.out 3).trans rfl, (blk_cell BK676.out 4).trans rfl, (blk_cell BK645.out 0).trans rfl, (blk_cell BK645.out 1).trans rfl, (blk_cell BK645.out 2).trans rfl, (blk_cell BK645.out 3).trans rfl, (blk_cell BK645.out 4).trans rfl⟩ (fun hHeld => ?_)
        generalize wc.drew = w54 at HO_10 HO_677000 HO_677001 HO_677002 BK645 BK676 HB hHeld ⊢
        refine take_ (i := 0) (N := some 57) (v := ?_) (a' := ?_) #[true, false, false, false, false] rfl rfl (by kernel_rfl) (fun _ _ _ h => h) (Or.inl ⟨by rfl, ?_⟩) hHeld ?_ ?_
        rotate_left
        ·rintro w' ⟨s0, s1, s2, s3, s4, s5, s6, s7, s8, s9⟩
         go_simp
         with_reducible rfl
        rotate_left
        ·simp only [Act.put, qa_, qz_, qs_, i64_w, i32_w]
         rfl
        refine take_ (i := 1) (N := some 58) (v := ?_) (a' := ?_) #[true, true, false, false, false] rfl rfl (by kernel_rfl) (fun _ _ _ h => h) (Or.inl ⟨by rfl, ?_⟩) hHeld ?_ ?_
        rotate_left
        ·rintro w' ⟨s0, s1, s2, s3, s4, s5, s6, s7, s8, s9⟩
         go_simp
         with_reducible rfl
        rotate_left
        ·simp only [Act.put, qa_, qz_, qs_, i64_w, i32_w]
         rfl
        refine one_ (i := 2) (N := some 59) #[true, true, true, false, false] rfl rfl (by kernel_rfl) (by decide) (fun K hK => ?_)
        refine goes_ Try.func16 (by kernel_rfl) rfl #[.agg #[.slice A0_0 l0_0.length c0_0, .slice A0_1 l0_1.length c0_1, .slice A0_2 l0_2.length c0_2, .int .i64 a0_3, .int .i64 a0_4]] (by rfl) rfl rfl (by (try simp only [List.map_toArray, List.map_cons, List.map_nil]); first | done | rfl) ?_
        with_reducible refine (laws_toHead.calls kj19 _ _ l0_0 _ _ l0_1 _ _ l0_2 a0_3 a0_4 t683 t686 t689 t692 t693 _ ?side1 ?side2 ?side3 ?side4 ?side5 ?side6 A48.out).mono ?_
        (case side1 => repeat (first | exact (Kd.C_below HR0_0.out HB.out) | (with_reducible first | refine Kd.C_alloc ?_ _ | refine Kd.C_drewN ?_ _ | refine Kd.C_drew ?_)))
        (case side2 => exact HC0_0.out)
        (case side3 => repeat (first | exact (Kd.C_below HR0_1.out HB.out) | (with_reducible first | refine Kd.C_alloc ?_ _ | refine Kd.C_drewN ?_ _ | refine Kd.C_drew ?_)))
        (case side4 => exact HC0_1.out)
        (case side5 => repeat (first | exact (Kd.C_below HR0_2.out HB.out) | (with_reducible first | refine Kd.C_alloc ?_ _ | refine Kd.C_drewN ?_ _ | refine Kd.C_drew ?_)))
        (case side6 => exact HC0_2.out)
        rintro e w55 ⟨v684, v687, v690, rfl, ho0, ho1, ho2, hb⟩
        refine ⟨_, rfl, ?_⟩
        have n0_ := Aside0.mk (Kd.S_mono (Kd.S_told (Kd.S_told (Kd.S_old (by (with_reducible repeat (first | apply Kd.S_alloc | apply Kd.S_drewN | apply Kd.S_drew)); exact HO_10.out) hb) (Kd.R_base ho1)) (Kd.R_base ho2)) (fun _ h_ => h_.1))
        have n1_ := Aside0.mk (Kd.R_elder' (by (with_reducible repeat (first | apply Kd.R_alloc | apply Kd.R_drewN | apply Kd.R_drew)); exact HO_677000.out) (Kd.R_base ho0) hb)
        have n2_ := Aside0.mk (Kd.R_mono (Kd.R_told (Kd.R_told (Kd.R_old (by (with_reducible repeat (first | apply Kd.R_alloc | apply Kd.R_drewN | apply Kd.R_drew)); exact HO_677001.out) hb) (Kd.R_base ho1)) (Kd.R_base ho2)) (fun _ h_ => h_.1))
        have n3_ := Aside0.mk (Kd.R_mono (Kd.R_told (Kd.R_told (Kd.R_old (by (with_reducible repeat (first | apply Kd.R_alloc | apply Kd.R_drewN | apply Kd.R_drew)); exact HO_677002.out) hb) (Kd.R_base ho1)) (Kd.R_base ho2)) (fun _ h_ => h_.1))
        have n4_ := Aside0.mk (Kd.R_lower (Kd.R_new' ho0 (Kd.R_lt (by (with_reducible repeat (first | apply Kd.R_alloc | apply Kd.R_drewN | apply Kd.R_drew)); exact HO_677000.out))) (below_size (by repeat (first | (with_reducible first | exact HB.out | apply below_alloc | apply pw_below_drewN | apply below_drew1 | refine below_set ?_ GE645.out | refine below_set ?_ GE676.out) | exact HB.out))))
        have n5_ := Aside0.mk (Kd.R_lower (Kd.R_new' (Kd.R_new' ho1 (Kd.R_lt (by (with_reducible repeat (first | apply Kd.R_alloc | apply Kd.R_drewN | apply Kd.R_drew)); exact HO_677001.out))) (Kd.R_lt (by (with_reducible repeat (first | apply Kd.R_alloc | apply Kd.R_drewN | apply Kd.R_drew)); exact HO_677002.out))) (below_size (by repeat (first | (with_reducible first | exact HB.out | apply below_alloc | apply pw_below_drewN | apply below_drew1 | refine below_set ?_ GE645.out | refine below_set ?_ GE676.out) | exact HB.out))))
        have n6_ := Aside0.mk (Kd.R_lower (Kd.R_new' (Kd.R_new' ho2 (Kd.R_lt (by (with_reducible repeat (first | apply Kd.R_alloc | apply Kd.R_drewN | apply Kd.R_drew)); exact HO_677001.out))) (Kd.R_lt (by (with_reducible repeat (first | apply Kd.R_alloc | apply Kd.R_drewN | apply Kd.R_drew)); exact HO_677002.out))) (below_size (by repeat (first | (with_reducible first | exact HB.out | apply below_alloc | apply pw_below_drewN | apply below_drew1 | refine below_set ?_ GE645.out | refine below_set ?_ GE676.out) | exact HB.out))))
        have n7_ := Aside0.mk (blk_below (g := gb645) (o := .cells #[.slice A0_0 l0_0.length c0_0, .slice A0_1 l0_1.length c0_1, .slice A0_2 l0_2.length c0_2, .int .i64 a0_3, .int .i64 a0_4] 25 (0, 0)) (by (with_reducible repeat (first | refine blk_drewN ?_ _ | refine blk_drew ?_ | refine blk_alloc ?_ _)); exact BK645.out) hb)
        have n8_ := Aside0.mk (blk_below (g := gb676) (o := .cells #[.slice Ao36 t665.length co36, .slice Ao39 t668.length co39, .slice Ao40 t671.length co40, .int .i64 t674, .int .i64 t675] 33 (0, 0)) (by (with_reducible repeat (first | refine blk_drewN ?_ _ | refine blk_drew ?_ | refine blk_alloc ?_ _)); exact BK676.out) hb)
        have n9_ := Aside0.mk (below_step (by repeat (first | (with_reducible first | exact HB.out | apply below_alloc | apply pw_below_drewN | apply below_drew1 | refine below_set ?_ GE645.out | refine below_set ?_ GE676.out) | exact HB.out)) hb)
        clear HO_10
        clear HO_677000
        clear HO_677001
        clear HO_677002
        clear BK645
        clear BK676
        clear HB
        have HO_10 := n0_
        have HO_677000 := n1_
        have HO_677001 := n2_
        have HO_677002 := n3_
        have HO685 := n4_
        have HO688 := n5_
        have HO691 := n6_
        have BK645 := n7_
        have BK676 := n8_
        have HB := n9_
        clear n0_ n1_ n2_ n3_ n4_ n5_ n6_ n7_ n8_ n9_
        (try clear hb)
        (try clear hb2)
        (try clear hk)
        (try clear hi)
        (try clear ho0)
        (try clear ho1)
        (try clear ho2)
        obtain ⟨Ao56, co56, eo56⟩ := Kd.R_slice HO685.out
        (first | subst eo56 | (injection eo56 with f1_ f2_ f3_; have f4_ := f1_.symm; have f5_ := f3_.symm; clear f1_ f2_ f3_; subst f4_; subst f5_))
        obtain ⟨Ao57, co57, eo57⟩ := Kd.R_slice HO688.out
        (first | subst eo57 | (injection eo57 with f1_ f2_ f3_; have f4_ := f1_.symm; have f5_ := f3_.symm; clear f1_ f2_ f3_; subst f4_; subst f5_))
        obtain ⟨Ao58, co58, eo58⟩ := Kd.R_slice HO691.out
        (first | subst eo58 | (injection eo58 with f1_ f2_ f3_; have f4_ := f1_.symm; have f5_ := f3_.symm; clear f1_ f2_ f3_; subst f4_; subst f5_))
        refine hK.out _ _ ⟨(blk_cell BK676.out 0).trans rfl, (blk_cell BK676.out 1).trans rfl, (blk_cell BK676.out 2).trans rfl, (blk_cell BK676.out 3).trans rfl, (blk_cell BK676.out 4).trans rfl, (blk_cell BK645.out 0).trans rfl, (blk_cell BK645.out 1).trans rfl, (blk_cell BK645.out 2).trans rfl, (blk_cell BK645.out 3).trans rfl, (blk_cell BK645.out 4).trans rfl⟩ (fun hHeld => ?_)
        clear hK K
        refine norm_ (a' := ?_) ?_ ?_
        rotate_left
        ·show Act.put _ (some 59) _ = _
         simp only [Act.put, qa_, qz_, qs_, i64_w, i32_w]
         rfl
        refine one_ (i := 3) (N := some 60) #[true, true, true, true, false] rfl rfl (by kernel_rfl) (by decide) (fun K hK => ?_)
        refine goes_ Try.func19 (by kernel_rfl) rfl #[.agg #[.slice Ao36 t665.length co36, .slice Ao39 t668.length co39, .slice Ao40 t671.length co40, .int .i64 t674, .int .i64 t675], .agg #[.slice Ao56 t683.length co56, .slice Ao57 t686.length co57, .slice Ao58 t689.length co58, .int .i64 t692, .int .i64 t693]] (by rfl) rfl rfl (by (try simp only [List.map_toArray, List.map_cons, List.map_nil]); first | done | rfl) ?_
        with_reducible refine (laws_eqHead.calls kj19 _ _ t665 _ _ t668 _ _ t671 t674 t675 _ _ t683 _ _ t686 _ _ t689 t692 t693 true _ ?side1 ?side2 ?side3 ?side4 ?side5 ?side6 ?side7 ?side8 ?side9 ?side10 ?side11 ?side12 A49.out).mono ?_
        (case side1 => repeat (first | exact (Kd.R_reads' HO_677000.out).2.2 | (with_reducible first | refine Kd.C_alloc ?_ _ | refine Kd.C_drewN ?_ _ | refine Kd.C_drew ?_)))
        (case side2 => exact (Kd.R_reads' HO_677000.out).2.1)
        (case side3 => repeat (first | exact (Kd.R_reads' HO_677001.out).2.2 | (with_reducible first | refine Kd.C_alloc ?_ _ | refine Kd.C_drewN ?_ _ | refine Kd.C_drew ?_)))
        (case side4 => exact (Kd.R_reads' HO_677001.out).2.1)
        (case side5 => repeat (first | exact (Kd.R_reads' HO_677002.out).2.2 | (with_reducible first | refine Kd.C_alloc ?_ _ | refine Kd.C_drewN ?_ _ | refine Kd.C_drew ?_)))
        (case side6 => exact (Kd.R_reads' HO_677002.out).2.1)
        (case side7 => repeat (first | exact (Kd.R_reads' HO685.out).2.2 | (with_reducible first | refine Kd.C_alloc ?_ _ | refine Kd.C_drewN ?_ _ | refine Kd.C_drew ?_)))
        (case side8 => exact (Kd.R_reads' HO685.out).2.1)
        (case side9 => repeat (first | exact (Kd.R_reads' HO688.out).2.2 | (with_reducible first | refine Kd.C_alloc ?_ _ | refine Kd.C_drewN ?_ _ | refine Kd.C_drew ?_)))
        (case side10 => exact (Kd.R_reads' HO688.out).2.1)
        (case side11 => repeat (first | exact (Kd.R_reads' HO691.out).2.2 | (with_reducible first | refine Kd.C_alloc ?_ _ | refine Kd.C_drewN ?_ _ | refine Kd.C_drew ?_)))
        (case side12 => exact (Kd.R_reads' HO691.out).2.1)
        rintro e w59 ⟨rfl, hb⟩
        refine ⟨_, rfl, ?_⟩
        have n0_ := Aside0.mk (Kd.S_below (by (with_reducible repeat (first | apply Kd.S_alloc | apply Kd.S_drewN | apply Kd.S_drew)); exact HO_10.out) hb)
        have n1_ := Aside0.mk (Kd.R_below (by (with_reducible repeat (first | apply Kd.R_alloc | apply Kd.R_drewN | apply Kd.R_drew)); exact HO_677000.out) hb)
        have n2_ := Aside0.mk (Kd.R_below (by (with_reducible repeat (first | apply Kd.R_alloc | apply Kd.R_drewN | apply Kd.R_drew)); exact HO_677001.out) hb)
        have n3_ := Aside0.mk (Kd.R_below (by (with_reducible repeat (first | apply Kd.R_alloc | apply Kd.R_drewN | apply Kd.R_drew)); exact HO_677002.out) hb)
        have n4_ := Aside0.mk (Kd.R_below (by (with_reducible repeat (first | apply Kd.R_alloc | apply Kd.R_drewN | apply Kd.R_drew)); exact HO685.out) hb)
        have n5_ := Aside0.mk (Kd.R_below (by (with_reducible repeat (first | apply Kd.R_alloc | apply Kd.R_drewN | apply Kd.R_drew)); exact HO688.out) hb)
        have n6_ := Aside0.mk (Kd.R_below (by (with_reducible repeat (first | apply Kd.R_alloc | apply Kd.R_drewN | apply Kd.R_drew)); exact HO691.out) hb)
        have n7_ := Aside0.mk (blk_below (g := gb645) (o := .cells #[.slice A0_0 l0_0.length c0_0, .slice A0_1 l0_1.length c0_1, .slice A0_2 l0_2.length c0_2, .int .i64 a0_3, .int .i64 a0_4] 25 (0, 0)) (by (with_reducible repeat (first | refine blk_drewN ?_ _ | refine blk_drew ?_ | refine blk_alloc ?_ _)); exact BK645.out) hb)
        have n8_ := Aside0.mk (blk_below (g := gb676) (o := .cells #[.slice Ao36 t665.length co36, .slice Ao39 t668.length co39, .slice Ao40 t671.length co40, .int .i64 t674, .int .i64 t675] 33 (0, 0)) (by (with_reducible repeat (first | refine blk_drewN ?_ _ | refine blk_drew ?_ | refine blk_alloc ?_ _)); exact BK676.out) hb)
        have n9_ := Aside0.mk (below_step (by repeat (first | (with_reducible first | exact HB.out | apply below_alloc | apply pw_below_drewN | apply below_drew1 | refine below_set ?_ GE645.out | refine below_set ?_ GE676.out) | exact HB.out)) hb)
        clear HO_10
        clear HO_677000
        clear HO_677001
        clear HO_677002
        clear HO685
        clear HO688
        clear HO691
        clear BK645
        clear BK676
        clear HB
        have HO_10 := n0_
        have HO_677000 := n1_
        have HO_677001 := n2_
        have HO_677002 := n3_
        have HO685 := n4_
        have HO688 := n5_
        have HO691 := n6_
        have BK645 := n7_
        have BK676 := n8_
        have HB := n9_
        clear n0_ n1_ n2_ n3_ n4_ n5_ n6_ n7_ n8_ n9_
        (try clear hb)
        (try clear hb2)
        (try clear hk)
        (try clear hi)
        refine hK.out _ _ ⟨(blk_cell BK676.out 0).trans rfl, (blk_cell BK676.out 1).trans rfl, (blk_cell BK676.out 2).trans rfl, (blk_cell BK676.out 3).trans rfl, (blk_cell BK676.out 4).trans rfl, (blk_cell BK645.out 0).trans rfl, (blk_cell BK645.out 1).trans rfl, (blk_cell BK645.out 2).trans rfl, (blk_cell BK645.out 3).trans rfl, (blk_cell BK645.out 4).trans rfl⟩ (fun hHeld => ?_)
        clear hK K
        refine norm_ (a' := ?_) ?_ ?_
        rotate_left
        ·show Act.put _ (some 60) _ = _
         simp only [Act.put, qa_, qz_, qs_, i64_w, i32_w]
         rfl
        refine pure_ (i := 4) (N := some 61) (v := ?_) (a' := ?_) #[true, true, true, true, true] rfl rfl (by kernel_rfl) (fun _ _ _ h => h) (Or.inl ⟨by rfl, ?_⟩) ?_ ?_
        rotate_left
        ·intro w'
         go_simp
         with_reducible rfl
        rotate_left
        ·simp only [Act.put, qa_, qz_, qs_, i64_w, i32_w]
         rfl
        refine done_ (by kernel_rfl) ?_
        try go_wp2_with (first | ((with_reducible refine gate_callee (f := 17) rfl ?_); refine goesL_ (some 64) rfl rfl Try.func17 (by kernel_rfl) rfl #[.slice A1 l1.length c1] rfl (by (try simp only [List.map_toArray, List.map_cons, List.map_nil]); first | done | rfl) ?_; (with_reducible refine (laws_toStopS.calls kj19 _ _ l1 t695 _ ?side1 ?side2 A51.out).mono ?_); (case side1 => repeat (first | exact (Kd.C_below HR1.out HB.out) | (with_reducible first | refine Kd.C_alloc ?_ _ | refine Kd.C_drewN ?_ _ | refine Kd.C_drew ?_))); (case side2 => exact HC1.out); rintro e w60 ⟨v696, rfl, ho0, hb⟩; refine ⟨_, rfl, ?_⟩; have n0_ := Aside0.mk (Kd.S_elder' (by (with_reducible repeat (first | apply Kd.S_alloc | apply Kd.S_drewN | apply Kd.S_drew)); exact HO_10.out) (Kd.S_base ho0) hb); have n1_ := Aside0.mk (Kd.R_below (by (with_reducible repeat (first | apply Kd.R_alloc | apply Kd.R_drewN | apply Kd.R_drew)); exact HO_677000.out) hb); have n2_ := Aside0.mk (Kd.R_below (by (with_reducible repeat (first | apply Kd.R_alloc | apply Kd.R_drewN | apply Kd.R_drew)); exact HO_677001.out) hb); have n3_ := Aside0.mk (Kd.R_below (by (with_reducible repeat (first | apply Kd.R_alloc | apply Kd.R_drewN | apply Kd.R_drew)); exact HO_677002.out) hb); have n4_ := Aside0.mk (Kd.R_below (by (with_reducible repeat (first | apply Kd.R_alloc | apply Kd.R_drewN | apply Kd.R_drew)); exact HO685.out) hb); have n5_ := Aside0.mk (Kd.R_below (by (with_reducible repeat (first | apply Kd.R_alloc | apply Kd.R_drewN | apply Kd.R_drew)); exact HO688.out) hb); have n6_ := Aside0.mk (Kd.R_below (by (with_reducible repeat (first | apply Kd.R_alloc | apply Kd.R_drewN | apply Kd.R_drew)); exact HO691.out) hb); have n7_ := Aside0.mk (Kd.S_lower (Kd.S_new' (Kd.S_new' (Kd.S_new' (Kd.S_new' (Kd.S_new' ho0 (Kd.S_lt (by (with_reducible repeat (first | apply Kd.S_alloc | apply Kd.S_drewN | apply Kd.S_drew)); exact HO_10.out))) (Kd.R_lt (by (with_reducible repeat (first | apply Kd.R_alloc | apply Kd.R_drewN | apply Kd.R_drew)); exact HO_677001.out))) (Kd.R_lt (by (with_reducible repeat (first | apply Kd.R_alloc | apply Kd.R_drewN | apply Kd.R_drew)); exact HO_677002.out))) (Kd.R_lt (by (with_reducible repeat (first | apply Kd.R_alloc | apply Kd.R_drewN | apply Kd.R_drew)); exact HO688.out))) (Kd.R_lt (by (with_reducible repeat (first | apply Kd.R_alloc | apply Kd.R_drewN | apply Kd.R_drew)); exact HO691.out))) (below_size (by repeat (first | (with_reducible first | exact HB.out | apply below_alloc | apply pw_below_drewN | apply below_drew1 | refine below_set ?_ GE645.out | refine below_set ?_ GE676.out) | exact HB.out)))); have n8_ := Aside0.mk (blk_below (g := gb645) (o := .cells #[.slice A0_0 l0_0.length c0_0, .slice A0_1 l0_1.length c0_1, .slice A0_2 l0_2.length c0_2, .int .i64 a0_3, .int .i64 a0_4] 25 (0, 0)) (by (with_reducible repeat (first | refine blk_drewN ?_ _ | refine blk_drew ?_ | refine blk_alloc ?_ _)); exact BK645.out) hb); have n9_ := Aside0.mk (blk_below (g := gb676) (o := .cells #[.slice Ao36 t665.length co36, .slice Ao39 t668.length co39, .slice Ao40 t671.length co40, .int .i64 t674, .int .i64 t675] 33 (0, 0)) (by (with_reducible repeat (first | refine blk_drewN ?_ _ | refine blk_drew ?_ | refine blk_alloc ?_ _)); exact BK676.out) hb); have n10_ := Aside0.mk (below_step (by repeat (first | (with_reducible first | exact HB.out | apply below_alloc | apply pw_below_drewN | apply below_drew1 | refine below_set ?_ GE645.out | refine below_set ?_ GE676.out) | exact HB.out)) hb); clear HO_10; clear HO_677000; clear HO_677001; clear HO_677002; clear HO685; clear HO688; clear HO691; clear BK645; clear BK676; clear HB; have HO_10 := n0_; have HO_677000 := n1_; have HO_677001 := n2_; have HO_677002 := n3_; have HO685 := n4_; have HO688 := n5_; have HO691 := n6_; have HO697 := n7_; have BK645 := n8_; have BK676 := n9_; have HB := n10_; clear n0_ n1_ n2_ n3_ n4_ n5_ n6_ n7_ n8_ n9_ n10_; (try clear hb); (try clear hb2); (try clear hk); (try clear hi); (try clear ho0); obtain ⟨Ao61, co61, eo61⟩ := Kd.S_slice HO697.out; subst eo61) | ((with_reducible refine gate_callee (f := 20) rfl ?_); refine goesL_ (some 65) rfl rfl Try.func20 (by kernel_rfl) rfl #[.slice Ao43 t677.length co43, .slice Ao61 t695.length co61] rfl (by (try simp only [List.map_toArray, List.map_cons, List.map_nil]); first | done | rfl) ?_; (with_reducible refine (laws_eqStopS.calls kj19 _ _ t677 _ _ t695 true _ ?side1 ?side2 ?side3 ?side4 A52.out).mono ?_); (case side1 => repeat (first | exact (Kd.S_reads' HO_10.out).2.2 | (with_reducible first | refine Kd.C_alloc ?_ _ | refine Kd.C_drewN ?_ _ | refine Kd.C_drew ?_))); (case side2 => exact (Kd.S_reads' HO_10.out).2.1); (case side3 => repeat (first | exact (Kd.S_reads' HO697.out).2.2 | (with_reducible first | refine Kd.C_alloc ?_ _ | refine Kd.C_drewN ?_ _ | refine Kd.C_drew ?_))); (case side4 => exact (Kd.S_reads' HO697.out).2.1); rintro e w62 ⟨rfl, hb⟩; refine ⟨_, rfl, ?_⟩; have n0_ := Aside0.mk (Kd.S_below (by (with_reducible repeat (first | apply Kd.S_alloc | apply Kd.S_drewN | apply Kd.S_drew)); exact HO_10.out) hb); have n1_ := Aside0.mk (Kd.R_below (by (with_reducible repeat (first | apply Kd.R_alloc | apply Kd.R_drewN | apply Kd.R_drew)); exact HO_677000.out) hb); have n2_ := Aside0.mk (Kd.R_below (by (with_reducible repeat (first | apply Kd.R_alloc | apply Kd.R_drewN | apply Kd.R_drew)); exact HO_677001.out) hb); have n3_ := Aside0.mk (Kd.R_below (by (with_reducible repeat (first | apply Kd.R_alloc | apply Kd.R_drewN | apply Kd.R_drew)); exact HO_677002.out) hb); have n4_ := Aside0.mk (Kd.R_below (by (with_reducible repeat (first | apply Kd.R_alloc | apply Kd.R_drewN | apply Kd.R_drew)); exact HO685.out) hb); have n5_ := Aside0.mk (Kd.R_below (by (with_reducible repeat (first | apply Kd.R_alloc | apply Kd.R_drewN | apply Kd.R_drew)); exact HO688.out) hb); have n6_ := Aside0.mk (Kd.R_below (by (with_reducible repeat (first | apply Kd.R_alloc | apply Kd.R_drewN | apply Kd.R_drew)); exact HO691.out) hb); have n7_ := Aside0.mk (Kd.S_below (by (with_reducible repeat (first | apply Kd.S_alloc | apply Kd.S_drewN | apply Kd.S_drew)); exact HO697.out) hb); have n8_ := Aside0.mk (blk_below (g := gb645) (o := .cells #[.slice A0_0 l0_0.length c0_0, .slice A0_1 l0_1.length c0_1, .slice A0_2 l0_2.length c0_2, .int .i64 a0_3, .int .i64 a0_4] 25 (0, 0)) (by (with_reducible repeat (first | refine blk_drewN ?_ _ | refine blk_drew ?_ | refine blk_alloc ?_ _)); exact BK645.out) hb); have n9_ := Aside0.mk (blk_below (g := gb676) (o := .cells #[.slice Ao36 t665.length co36, .slice Ao39 t668.length co39, .slice Ao40 t671.length co40, .int .i64 t674, .int .i64 t675] 33 (0, 0)) (by (with_reducible repeat (first | refine blk_drewN ?_ _ | refine blk_drew ?_ | refine blk_alloc ?_ _)); exact BK676.out) hb); have n10_ := Aside0.mk (below_step (by repeat (first | (with_reducible first | exact HB.out | apply below_alloc | apply pw_below_drewN | apply below_drew1 | refine below_set ?_ GE645.out | refine below_set ?_ GE676.out) | exact HB.out)) hb); clear HO_10; clear HO_677000; clear HO_677001; clear HO_677002; clear HO685; clear HO688; clear HO691; clear HO697; clear BK645; clear BK676; clear HB; have HO_10 := n0_; have HO_677000 := n1_; have HO_677001 := n2_; have HO_677002 := n3_; have HO685 := n4_; have HO688 := n5_; have HO691 := n6_; have HO697 := n7_; have BK645 := n8_; have BK676 := n9_; have HB := n10_; clear n0_ n1_ n2_ n3_ n4_ n5_ n6_ n7_ n8_ n9_ n10_; (try clear hb); (try clear hb2); (try clear hk); (try clear hi)))
        go_ret
        exact ⟨by first | rfl | (simp [errW_none, errW_some] <;> rfl) | (simp [*, errW_none, errW_some] <;> rfl) | (simp [Int.tdiv_eq_ediv_of_nonneg, *]; done), by repeat (first | (with_reducible first | exact HB.out | apply below_alloc | apply pw_below_drewN | apply below_drew1 | refine below_set ?_ GE645.out | refine below_set ?_ GE676.out) | exact HB.out)⟩
       ·replace c53 := Bool.eq_false_iff.mpr c53
        subst c53
        have H1 : (some false) = some r := by rw [if_neg (show ¬ (false = true) by decide)] at H; exact H
        clear H
        have H := H1
        clear H1
        exact absurd (Option.some.inj H) (by rw [hr_]; decide)
      ·replace c50 := Bool.eq_false_iff.mpr c50
       subst c50
       have H1 : (some false) = some r := by rw [if_neg (show ¬ (false = true) by decide)] at H; exact H
       clear H
       have H := H1
       clear H1
       exact absurd (Option.some.inj H) (by rw [hr_]; decide)
def laws_FnExactFirstFailure.Pure : Prop := ∀ (l0_0 : List (S156)) (l0_1 : List Int) (l0_2 : List Int) (a0_3 : Int) (a0_4 : Int) (l1 : List (S100)), Opn.WfL W156 l0_0 → Opn.WfL (fun a_ => (Lit.int .i64 a_).wf = true) l0_1 → Opn.WfL (fun a_ => (Lit.int .i64 a_).wf = true) l0_2 → (Lit.int .i64 a0_3).wf = true → (Lit.int .i64 a0_4).wf = true → Opn.WfL W100 l1 → ∃ k, laws_FnExactFirstFailure.f k l0_0 l0_1 l0_2 a0_3 a0_4 l1 = some true
theorem laws_FnExactFirstFailure.walk (P : laws_FnExactFirstFailure.Pure) (A0_0 : Option Addr) (c0_0 : Nat) (l0_0 : List (S156)) (A0_1 : Option Addr) (c0_1 : Nat) (l0_1 : List Int) (A0_2 : Option Addr) (c0_2 : Nat) (l0_2 : List Int) (a0_3 : Int) (a0_4 : Int) (A1 : Option Addr) (c1 : Nat) (l1 : List (S100)) (w : World) (hr0_0 : Kd.C k156 w A0_0 l0_0.length l0_0) (hc0_0 : l0_0.length ≤ c0_0) (hr0_1 : Kd.C (Kd.int .i64) w A0_1 l0_1.length l0_1) (hc0_1 : l0_1.length ≤ c0_1) (hr0_2 : Kd.C (Kd.int .i64) w A0_2 l0_2.length l0_2) (hc0_2 : l0_2.length ≤ c0_2) (hr1 : Kd.C k100 w A1 l1.length l1) (hc1 : l1.length ≤ c1) (w0_0 : Opn.WfL W156 l0_0) (w0_1 : Opn.WfL (fun a_ => (Lit.int .i64 a_).wf = true) l0_1) (w0_2 : Opn.WfL (fun a_ => (Lit.int .i64 a_).wf = true) l0_2) (w0_3 : (Lit.int .i64 a0_3).wf = true) (w0_4 : (Lit.int .i64 a0_4).wf = true) (w1 : Opn.WfL W100 l1) :
  Calls Try.prog 8 #[.agg #[.slice A0_0 l0_0.length c0_0, .slice A0_1 l0_1.length c0_1, .slice A0_2 l0_2.length c0_2, .int .i64 a0_3, .int .i64 a0_4], .slice A1 l1.length c1] w fun e w' => e = .returned (.bool true) ∧ Below w.heap.size w w' := by
 obtain ⟨k, h⟩ := P l0_0 l0_1 l0_2 a0_3 a0_4 l1 w0_0 w0_1 w0_2 w0_3 w0_4 w1
 refine (laws_FnExactFirstFailure.calls k A0_0 c0_0 l0_0 A0_1 c0_1 l0_1 A0_2 c0_2 l0_2 a0_3 a0_4 A1 c1 l1 true w hr0_0 hc0_0 hr0_1 hc0_1 hr0_2 hc0_2 hr1 hc1 h rfl).mono ?_
 rintro e w' ⟨rfl, hd⟩
 exact ⟨rfl, hd⟩

end Go.Proofs.Ytagmaflnnaonjaa.P
/- Plain facts on numbers and lists that every loop's lemma uses. -/
namespace Go.Proofs.Ytagmaflnnaonjaa.P
open Go.RowKit Go.Proofs.Ytagmaflnnaonjaa.P Go.Proofs.YtagmaflnnaonjaaW.PrintWords Go.Proofs.YtagmaflnnaonjaaW.PrintLast Go.Proofs.YtagmaflnnaonjaaW.PrintMore
set_option linter.unusedVariables false
set_option linter.unusedSimpArgs false
theorem w64 (x : Int) (h1 : -9223372036854775808 ≤ x) (h2 : x ≤ 9223372036854775807) : wrap64 x = x := by unfold wrap64; omega
theorem w64s (i : Nat) (h : i < 9223372036854775807) : wrap64 ((i : Int) + 1) = ((i + 1 : Nat) : Int) := by unfold wrap64; omega
theorem rd_at (l : List Int) (i : Nat) (h : i < l.length) : rd l (i : Int) = l[i] := by
  unfold rd
  rw [Int.toNat_natCast, List.getD_eq_getElem?_getD, List.getElem?_eq_getElem h]
  rfl
theorem drop_at (l : List Int) (i : Nat) (h : i < l.length) : l.drop i = rd l (i : Int) :: l.drop (i + 1) := by
  rw [rd_at l i h, List.drop_eq_getElem_cons h]
theorem fill_step {α : Type} (l acc : List α) (i : Nat) (x : α) (hi : i < l.length) (hl : acc.length = l.length) (h : acc.take i = l.take i) (hx : l[i] = x) : (acc.set i x).take (i + 1) = l.take (i + 1) := by
  subst hx
  have hi2 : i < (acc.set i l[i]).length := by rw [List.length_set]; omega
  rw [List.take_succ_eq_append_getElem hi2, List.take_succ_eq_append_getElem hi, List.getElem_set_self, List.take_set_of_le (Nat.le_refl i), h]
theorem bind_some_ {α β : Type} (a : α) (f : α → Option β) : (some a).bind f = f a := rfl
theorem ite_tt (b r : Bool) : (if b = true then some r else some false) = some (b && r) := by cases b <;> rfl
theorem ite_ff (p : Prop) [Decidable p] (r : Bool) : (if p then some false else some r) = some (!decide p && r) := by by_cases h : p <;> simp [h]
theorem ite_pp (p : Prop) [Decidable p] (r : Bool) : (if p then some r else some false) = some (decide p && r) := by by_cases h : p <;> simp [h]
theorem not_ge_dec (a b : Int) : (!decide (a ≥ b)) = decide (a < b) := by by_cases h : a < b <;> simp [h] <;> omega

end Go.Proofs.Ytagmaflnnaonjaa.P
/- A number is in a list, as the program asks it. -/
namespace Go.Proofs.Ytagmaflnnaonjaa.P
open Go.RowKit Go.Proofs.Ytagmaflnnaonjaa.P Go.Proofs.YtagmaflnnaonjaaW.PrintWords Go.Proofs.YtagmaflnnaonjaaW.PrintLast Go.Proofs.YtagmaflnnaonjaaW.PrintMore
set_option linter.unusedVariables false
set_option linter.unusedSimpArgs false
theorem implIndex_loop (l : List Int) (n : Int) (hb : l.length ≤ 9223372036854775806) : ∀ (d k i : Nat), i + d = l.length → d < k → ∃ r, slices_Index_int64_int64.l0 k l n l.length i = some r ∧ (decide (r ≥ 0) = decide (n ∈ l.drop i)) := by
  intro d
  induction d with
  | zero =>
    intro k i hi hk
    obtain ⟨k, rfl⟩ : ∃ m, k = m + 1 := ⟨k - 1, by omega⟩
    simp only [slices_Index_int64_int64.l0]
    rw [if_neg (by omega), List.drop_of_length_le (by omega)]
    exact ⟨_, rfl, by simp⟩
  | succ d ih =>
    intro k i hi hk
    obtain ⟨k, rfl⟩ : ∃ m, k = m + 1 := ⟨k - 1, by omega⟩
    simp only [slices_Index_int64_int64.l0]
    rw [if_pos (by omega), if_pos (by omega), if_pos (by omega), w64s i (by omega), drop_at l i (by omega)]
    by_cases h : n = rd l i
    · rw [if_pos h]
      exact ⟨_, rfl, by simp [h]⟩
    · rw [if_neg h]
      obtain ⟨r, hr, hd⟩ := ih k (i + 1) (by omega) (by omega)
      refine ⟨r, hr, ?_⟩
      rw [hd]
      simp [h]
theorem implContains_is (k : Nat) (l : List Int) (n : Int) (hb : l.length ≤ 9223372036854775806) (hk : l.length < k) : slices_Contains_int64_int64.f k l n = some (decide (n ∈ l)) := by
  unfold slices_Contains_int64_int64.f slices_Index_int64_int64.f
  obtain ⟨r, hr, hd⟩ := implIndex_loop l n hb l.length k 0 (by omega) hk
  rw [show ((0 : Nat) : Int) = 0 from rfl] at hr
  rw [hr, bind_some_, hd, List.drop_zero]

end Go.Proofs.Ytagmaflnnaonjaa.P
/- A test at each of some numbers that follow one another. -/
namespace Go.Proofs.Ytagmaflnnaonjaa.P
open Go.RowKit Go.Proofs.Ytagmaflnnaonjaa.P Go.Proofs.YtagmaflnnaonjaaW.PrintWords Go.Proofs.YtagmaflnnaonjaaW.PrintLast Go.Proofs.YtagmaflnnaonjaaW.PrintMore
set_option linter.unusedVariables false
set_option linter.unusedSimpArgs false
def upTo (p : Nat → Bool) : Nat → Nat → Bool
  | 0, _ => true
  | d + 1, i => p i && upTo p d (i + 1)
theorem upTo_iff (p : Nat → Bool) : ∀ (d i : Nat), upTo p d i = true ↔ ∀ j, i ≤ j → j < i + d → p j = true := by
  intro d
  induction d with
  | zero => intro i; simp [upTo]; intro j h1 h2; omega
  | succ d ih =>
    intro i
    simp only [upTo, Bool.and_eq_true, ih]
    constructor
    · intro ⟨h0, h⟩ j h1 h2
      by_cases e : i = j
      · rw [← e]; exact h0
      · exact h j (by omega) (by omega)
    · intro h
      exact ⟨h i (Nat.le_refl _) (by omega), fun j h1 h2 => h j (by omega) (by omega)⟩

end Go.Proofs.Ytagmaflnnaonjaa.P
/- Numbers in a range that rise. -/
namespace Go.Proofs.Ytagmaflnnaonjaa.P
open Go.RowKit Go.Proofs.Ytagmaflnnaonjaa.P Go.Proofs.YtagmaflnnaonjaaW.PrintWords Go.Proofs.YtagmaflnnaonjaaW.PrintLast Go.Proofs.YtagmaflnnaonjaaW.PrintMore
set_option linter.unusedVariables false
set_option linter.unusedSimpArgs false
def riseOk (l : List Int) (lo hi : Int) (i : Nat) : Bool := decide (lo ≤ rd l i ∧ rd l i ≤ hi) && (decide (i = 0) || decide (rd l ((i - 1 : Nat) : Int) < rd l i))
def rises (l : List Int) (lo hi : Int) : Bool := upTo (riseOk l lo hi) l.length 0

end Go.Proofs.Ytagmaflnnaonjaa.P
/- What is asked of a head. -/
namespace Go.Proofs.Ytagmaflnnaonjaa.P
open Go.RowKit Go.Proofs.Ytagmaflnnaonjaa.P Go.Proofs.YtagmaflnnaonjaaW.PrintWords Go.Proofs.YtagmaflnnaonjaaW.PrintLast Go.Proofs.YtagmaflnnaonjaaW.PrintMore
set_option linter.unusedVariables false
set_option linter.unusedSimpArgs false
def cuOk (cs : List S154) (i : Nat) : Bool := decide (1 ≤ (rd_T154 cs i).f0 ∧ (rd_T154 cs i).f0 ≤ 100) && decide (1 ≤ (rd_T154 cs i).f1 ∧ (rd_T154 cs i).f1 ≤ 1000000)
def hdOk (cs : List S154) (fc st : List Int) (x y : Int) : Bool :=
  decide (1 ≤ (cs.length : Int) ∧ (cs.length : Int) ≤ 5) && (decide ((fc.length : Int) ≤ 60) && (decide ((st.length : Int) ≤ 8) && (rises st 0 (wrap64 ((fc.length : Int) - 1)) && (upTo (cuOk cs) cs.length 0 && (impl_areWithin.all 0 100 fc && (decide (0 ≤ x ∧ x ≤ 10000) && decide (0 ≤ y ∧ y ≤ 10000)))))))

end Go.Proofs.Ytagmaflnnaonjaa.P
/- Numbers in a range, as the program asks it of a list. -/
namespace Go.Proofs.Ytagmaflnnaonjaa.P
open Go.RowKit Go.Proofs.Ytagmaflnnaonjaa.P Go.Proofs.YtagmaflnnaonjaaW.PrintWords Go.Proofs.YtagmaflnnaonjaaW.PrintLast Go.Proofs.YtagmaflnnaonjaaW.PrintMore
set_option linter.unusedVariables false
set_option linter.unusedSimpArgs false
theorem areWithin2 (a b lo hi : Int) : impl_areWithin.all lo hi [a, b] = (decide (lo ≤ a ∧ a ≤ hi) && decide (lo ≤ b ∧ b ≤ hi)) := by
  simp [impl_areWithin.all]

end Go.Proofs.Ytagmaflnnaonjaa.P
/- A number lies in a range, as the program asks it. -/
namespace Go.Proofs.Ytagmaflnnaonjaa.P
open Go.RowKit Go.Proofs.Ytagmaflnnaonjaa.P Go.Proofs.YtagmaflnnaonjaaW.PrintWords Go.Proofs.YtagmaflnnaonjaaW.PrintLast Go.Proofs.YtagmaflnnaonjaaW.PrintMore
set_option linter.unusedVariables false
set_option linter.unusedSimpArgs false
theorem within_is (a b c : Int) : impl_within.f a b c = some (decide (b ≤ a ∧ a ≤ c)) := by
  unfold impl_within.f
  by_cases h : b ≤ a <;> simp [h]

end Go.Proofs.Ytagmaflnnaonjaa.P
/- Numbers in a range that rise, as the program asks it. -/
namespace Go.Proofs.Ytagmaflnnaonjaa.P
open Go.RowKit Go.Proofs.Ytagmaflnnaonjaa.P Go.Proofs.YtagmaflnnaonjaaW.PrintWords Go.Proofs.YtagmaflnnaonjaaW.PrintLast Go.Proofs.YtagmaflnnaonjaaW.PrintMore
set_option linter.unusedVariables false
set_option linter.unusedSimpArgs false
theorem implRises_loop (l : List Int) (n : Int) (hb : l.length ≤ 9223372036854775806) : ∀ (d k i : Nat), i + d = l.length → d < k → impl_isSet.l0 k l n l l.length i = some (upTo (riseOk l 0 (wrap64 (n - 1))) d i) := by
  intro d
  induction d with
  | zero =>
    intro k i hi' hk
    obtain ⟨k, rfl⟩ : ∃ m, k = m + 1 := ⟨k - 1, by omega⟩
    simp only [impl_isSet.l0]
    rw [if_neg (by omega)]
    rfl
  | succ d ih =>
    intro k i hi' hk
    obtain ⟨k, rfl⟩ : ∃ m, k = m + 1 := ⟨k - 1, by omega⟩
    have hz := ih k (i + 1) (by omega) (by omega)
    simp only [impl_isSet.l0, within_is, bind_some_, upTo, riseOk]
    rw [if_pos (by omega), if_pos (by omega), if_pos (by omega), w64s i (by omega), hz]
    by_cases h : i = 0
    · rw [if_neg (show ¬ (i : Int) > 0 by omega), ite_tt, decide_eq_true h, Bool.true_or, Bool.and_true]
    · have e : wrap64 ((i : Int) - 1) = ((i - 1 : Nat) : Int) := by rw [w64 _ (by omega) (by omega)]; omega
      rw [if_pos (show (i : Int) > 0 by omega), e, if_pos (show (0 : Int) ≤ ((i - 1 : Nat) : Int) by omega), if_pos (show ((i - 1 : Nat) : Int) < (l.length : Int) by omega), ite_ff, ite_tt, not_ge_dec, decide_eq_false h, Bool.false_or, Bool.and_assoc]
theorem implRises_is (k : Nat) (l : List Int) (n : Int) (hb : l.length ≤ 9223372036854775806) (hk : l.length < k) : impl_isSet.f k l n = some (rises l 0 (wrap64 (n - 1))) := by
  unfold impl_isSet.f rises
  exact implRises_loop l n hb l.length k 0 (by omega) hk

end Go.Proofs.Ytagmaflnnaonjaa.P
/- What the program asks of a head. -/
namespace Go.Proofs.Ytagmaflnnaonjaa.P
open Go.RowKit Go.Proofs.Ytagmaflnnaonjaa.P Go.Proofs.YtagmaflnnaonjaaW.PrintWords Go.Proofs.YtagmaflnnaonjaaW.PrintLast Go.Proofs.YtagmaflnnaonjaaW.PrintMore
set_option linter.unusedVariables false
set_option linter.unusedSimpArgs false
theorem implHead_l0 (cs : List S154) (fc st : List Int) (x y : Int) (hc : cs.length ≤ 1048576) (hb : fc.length ≤ 1048576) (hs : st.length ≤ 1048576) : ∀ (d k i : Nat), i + d = cs.length → d + st.length + 1 < k → impl_ValidHead.l0 k cs cs.length i cs fc st x y = some (upTo (cuOk cs) d i && (decide (1 ≤ (cs.length : Int) ∧ (cs.length : Int) ≤ 5) && (decide ((fc.length : Int) ≤ 60) && (impl_areWithin.all 0 100 fc && (decide ((st.length : Int) ≤ 8) && (rises st 0 (wrap64 ((fc.length : Int) - 1)) && (decide (0 ≤ x ∧ x ≤ 10000) && decide (0 ≤ y ∧ y ≤ 10000)))))))) := by
  intro d
  induction d with
  | zero =>
    intro k i hi' hk
    obtain ⟨k, rfl⟩ : ∃ m, k = m + 1 := ⟨k - 1, by omega⟩
    simp only [impl_ValidHead.l0, within_is, impl_areWithin.f, bind_some_, areWithin2]
    rw [if_neg (by omega), implRises_is k st _ (by omega) (by omega)]
    simp only [bind_some_, ite_tt, ite_pp, upTo, Bool.true_and, Bool.decide_eq_true]
  | succ d ih =>
    intro k i hi' hk
    obtain ⟨k, rfl⟩ : ∃ m, k = m + 1 := ⟨k - 1, by omega⟩
    have hz := ih k (i + 1) (by omega) (by omega)
    simp only [impl_ValidHead.l0, within_is, bind_some_]
    rw [if_pos (by omega), if_pos (by omega), if_pos (by omega), w64s i (by omega), hz, ite_tt, ite_tt]
    simp only [upTo, cuOk, Bool.and_assoc]
theorem implHead_is (k : Nat) (cs : List S154) (fc st : List Int) (x y : Int) (hc : cs.length ≤ 1048576) (hb : fc.length ≤ 1048576) (hs : st.length ≤ 1048576) (hk : cs.length + st.length + 3 < k) : impl_ValidHead.f k cs fc st x y = some (hdOk cs fc st x y) := by
  unfold impl_ValidHead.f
  have h0 := implHead_l0 cs fc st x y hc hb hs cs.length k 0 (by omega) (by omega)
  rw [show ((0 : Nat) : Int) = 0 by rfl] at h0
  rw [h0]
  unfold hdOk
  congr 1
  ac_rfl

end Go.Proofs.Ytagmaflnnaonjaa.P
/- What is asked of a plan. -/
namespace Go.Proofs.Ytagmaflnnaonjaa.P
open Go.RowKit Go.Proofs.Ytagmaflnnaonjaa.P Go.Proofs.YtagmaflnnaonjaaW.PrintWords Go.Proofs.YtagmaflnnaonjaaW.PrintLast Go.Proofs.YtagmaflnnaonjaaW.PrintMore
set_option linter.unusedVariables false
set_option linter.unusedSimpArgs false
def stopOk (n : Nat) (st : List Int) (p : List S106) (i : Nat) : Bool :=
  decide ((rd_T106 p (i : Int)).f0 ∈ st) && (!decide (((rd_T106 p (i : Int)).f1.length : Int) = 0) && (rises (rd_T106 p (i : Int)).f1 0 (wrap64 ((n : Int) - 1)) && (decide (i = 0) || decide ((rd_T106 p ((i - 1 : Nat) : Int)).f0 < (rd_T106 p (i : Int)).f0))))
def planOk (n : Nat) (st : List Int) (p : List S106) : Bool := upTo (stopOk n st p) p.length 0
theorem ite_fc (p : Prop) [Decidable p] (o : Option Bool) (b : Bool) (h : o = some b) : (if p then some false else o) = some (!decide p && b) := by by_cases hp : p <;> simp [hp, h]
theorem ite_tc (c : Bool) (o : Option Bool) (b : Bool) (h : o = some b) : (if c = true then o else some false) = some (c && b) := by cases c <;> simp [h]

end Go.Proofs.Ytagmaflnnaonjaa.P
/- Two lists of numbers are compared. -/
namespace Go.Proofs.Ytagmaflnnaonjaa.P
open Go.RowKit Go.Proofs.Ytagmaflnnaonjaa.P Go.Proofs.YtagmaflnnaonjaaW.PrintWords Go.Proofs.YtagmaflnnaonjaaW.PrintLast Go.Proofs.YtagmaflnnaonjaaW.PrintMore
set_option linter.unusedVariables false
set_option linter.unusedSimpArgs false
theorem eqInt_loop (a b : List Int) (hl : a.length = b.length) (hb : a.length ≤ 9223372036854775807) : ∀ (d k i : Nat), i + d = a.length → d < k → laws_eqInt64S.l0 k a b i = some (decide (a.drop i = b.drop i)) := by
  intro d
  induction d with
  | zero =>
    intro k i hi hk
    obtain ⟨k, rfl⟩ : ∃ m, k = m + 1 := ⟨k - 1, by omega⟩
    simp only [laws_eqInt64S.l0]
    rw [if_neg (by omega), List.drop_of_length_le (by omega), List.drop_of_length_le (by omega)]
    simp
  | succ d ih =>
    intro k i hi hk
    obtain ⟨k, rfl⟩ : ∃ m, k = m + 1 := ⟨k - 1, by omega⟩
    simp only [laws_eqInt64S.l0]
    rw [if_pos (by omega), if_pos (by omega), if_pos (by omega), w64s i (by omega), ih k (i + 1) (by omega) (by omega), drop_at a i (by omega), drop_at b i (by omega)]
    by_cases h : rd a i = rd b i
    · rw [if_pos h]; simp [h]
    · rw [if_neg h]; simp [h]
theorem eqInt_is (k : Nat) (a b : List Int) (hb : a.length ≤ 9223372036854775807) (hk : a.length < k) : laws_eqInt64S.f k a b = some (decide (a = b)) := by
  unfold laws_eqInt64S.f
  by_cases h : a.length = b.length
  · rw [if_pos (by omega)]
    have := eqInt_loop a b h hb a.length k 0 (by omega) hk
    simpa using this
  · rw [if_neg (by omega)]
    have : a ≠ b := fun e => h (by rw [e])
    simp [this]

end Go.Proofs.Ytagmaflnnaonjaa.P
/- A list of numbers is copied. -/
namespace Go.Proofs.Ytagmaflnnaonjaa.P
open Go.RowKit Go.Proofs.Ytagmaflnnaonjaa.P Go.Proofs.YtagmaflnnaonjaaW.PrintWords Go.Proofs.YtagmaflnnaonjaaW.PrintLast Go.Proofs.YtagmaflnnaonjaaW.PrintMore
set_option linter.unusedVariables false
set_option linter.unusedSimpArgs false
theorem toInt_loop (l : List Int) (hb : l.length ≤ 9223372036854775807) : ∀ (d k i : Nat) (acc : List Int), i + d = l.length → d < k → acc.length = l.length → acc.take i = l.take i → laws_toInt64S.l0 k l acc i = some l := by
  intro d
  induction d with
  | zero =>
    intro k i acc hi hk ha ht
    obtain ⟨k, rfl⟩ : ∃ m, k = m + 1 := ⟨k - 1, by omega⟩
    simp only [laws_toInt64S.l0]
    rw [if_neg (by omega)]
    rw [List.take_of_length_le (by omega), List.take_of_length_le (by omega)] at ht
    rw [ht]
  | succ d ih =>
    intro k i acc hi hk ha ht
    obtain ⟨k, rfl⟩ : ∃ m, k = m + 1 := ⟨k - 1, by omega⟩
    simp only [laws_toInt64S.l0]
    rw [if_pos (by omega), if_pos (by omega), if_pos (by omega), w64s i (by omega), Int.toNat_natCast]
    exact ih k (i + 1) _ (by omega) (by omega) (by rw [List.length_set]; exact ha) (fill_step l acc i _ (by omega) ha ht (rd_at l i (by omega)).symm)
theorem toInt_is (k : Nat) (l : List Int) (hb : l.length ≤ 35184372088832) (hk : l.length < k) : laws_toInt64S.f k l = some l := by
  unfold laws_toInt64S.f
  rw [if_pos (by omega), if_pos (by omega)]
  exact toInt_loop l (by omega) l.length k 0 _ (by omega) hk (by simp) (by simp)

end Go.Proofs.Ytagmaflnnaonjaa.P
/- A list of the law's own structs that hold lists is copied into the program's, measured, and equal to itself. -/
namespace Go.Proofs.Ytagmaflnnaonjaa.P
open Go.RowKit Go.Proofs.Ytagmaflnnaonjaa.P Go.Proofs.YtagmaflnnaonjaaW.PrintWords Go.Proofs.YtagmaflnnaonjaaW.PrintLast Go.Proofs.YtagmaflnnaonjaaW.PrintMore
set_option linter.unusedVariables false
set_option linter.unusedSimpArgs false
def toStop (x : S100) : S106 := ⟨x.f0, x.f1⟩
theorem rdLStop_at (l : List S100) (i : Nat) (h : i < l.length) : rd_T100 l (i : Int) = l[i] := by
  unfold rd_T100
  rw [Int.toNat_natCast, List.getD_eq_getElem?_getD, List.getElem?_eq_getElem h]
  rfl
theorem rdStop_at (l : List S106) (i : Nat) (h : i < l.length) : rd_T106 l (i : Int) = l[i] := by
  unfold rd_T106
  rw [Int.toNat_natCast, List.getD_eq_getElem?_getD, List.getElem?_eq_getElem h]
  rfl
def shortS (l : List S106) : Prop := l.length ≤ 1048576 ∧ ∀ s ∈ l, s.f1.length ≤ 1048576
theorem shortS_at {l : List S106} (h : shortS l) (i : Nat) (hi : i < l.length) : (rd_T106 l (i : Int)).f1.length ≤ 1048576 := by
  rw [rdStop_at l i hi]
  exact h.2 _ (List.getElem_mem hi)
theorem toStopS_loop (l : List S100) (hb : l.length ≤ 9223372036854775806) (hs : ∀ s ∈ l, s.f1.length ≤ 1048576) : ∀ (d k i : Nat) (acc : List S106), i + d = l.length → d + 1048576 < k → acc.length = l.length → acc.take i = (l.map toStop).take i → laws_toStopS.l0 k l acc i = some (l.map toStop) := by
  intro d
  induction d with
  | zero =>
    intro k i acc hi hk ha ht
    obtain ⟨k, rfl⟩ : ∃ m, k = m + 1 := ⟨k - 1, by omega⟩
    simp only [laws_toStopS.l0]
    rw [if_neg (by omega)]
    rw [List.take_of_length_le (by omega), List.take_of_length_le (by rw [List.length_map]; omega)] at ht
    rw [ht]
  | succ d ih =>
    intro k i acc hi hk ha ht
    obtain ⟨k, rfl⟩ : ∃ m, k = m + 1 := ⟨k - 1, by omega⟩
    have h1 : (rd_T100 l (i : Int)).f1.length ≤ 1048576 := by
      rw [rdLStop_at l i (by omega)]
      exact hs _ (List.getElem_mem _)
    simp only [laws_toStopS.l0, laws_toStop.f]
    rw [if_pos (by omega), if_pos (by omega), toInt_is k _ (by omega) (by omega), bind_some_, bind_some_, if_pos (by omega), w64s i (by omega), Int.toNat_natCast]
    refine ih k (i + 1) _ (by omega) (by omega) (by rw [List.length_set]; exact ha) (fill_step (l.map toStop) acc i _ (by rw [List.length_map]; omega) (by rw [List.length_map]; exact ha) ht ?_)
    rw [List.getElem_map, rdLStop_at l i (by omega)]
    rfl
theorem toStopS_is (k : Nat) (l : List S100) (hb : l.length ≤ 1048576) (hs : ∀ s ∈ l, s.f1.length ≤ 1048576) (hk : l.length + 1048576 < k) : laws_toStopS.f k l = some (l.map toStop) := by
  unfold laws_toStopS.f
  rw [if_pos (by omega), if_pos (by omega)]
  exact toStopS_loop l (by omega) hs l.length k 0 _ (by omega) hk (by simp) (by simp)
theorem toStop_short {l : List S100} (hb : l.length ≤ 1048576) (hs : ∀ s ∈ l, s.f1.length ≤ 1048576) : shortS (l.map toStop) := by
  refine ⟨by rw [List.length_map]; exact hb, ?_⟩
  intro s h
  obtain ⟨t, h1, rfl⟩ := List.mem_map.mp h
  exact hs t h1
theorem szStopS_loop (l : List S100) (hb : l.length ≤ 9223372036854775806) (hw : ∀ s ∈ l, s.f1.length ≤ 9223372036854775807) : ∀ (d k i : Nat) (left : Int), i + d = l.length → d < k → 0 ≤ left → left ≤ 1048576 → (∀ j : Nat, j < i → (rd_T100 l (j : Int)).f1.length ≤ 1048576) → ∃ r, laws_szStopS.l0 k l left i = some r ∧ (r < 0 ∨ (0 ≤ r ∧ ∀ s ∈ l, s.f1.length ≤ 1048576)) := by
  intro d
  induction d with
  | zero =>
    intro k i left hi hk h0 h1 hj
    obtain ⟨k, rfl⟩ : ∃ m, k = m + 1 := ⟨k - 1, by omega⟩
    simp only [laws_szStopS.l0]
    rw [if_neg (by omega)]
    refine ⟨_, rfl, Or.inr ⟨h0, ?_⟩⟩
    intro s hs
    obtain ⟨j, hj1, rfl⟩ := List.getElem_of_mem hs
    have := hj j (by omega)
    rwa [rdLStop_at l j hj1] at this
  | succ d ih =>
    intro k i left hi hk h0 h1 hj
    obtain ⟨k, rfl⟩ : ∃ m, k = m + 1 := ⟨k - 1, by omega⟩
    have h2 : (rd_T100 l (i : Int)).f1.length ≤ 9223372036854775807 := by
      rw [rdLStop_at l i (by omega)]
      exact hw _ (List.getElem_mem _)
    simp only [laws_szStopS.l0, laws_szStop.f, laws_szInt64S.f]
    rw [if_pos (by omega), if_pos (by omega), w64 (left - ((rd_T100 l (i : Int)).f1.length : Int)) (by omega) (by omega), w64s i (by omega)]
    by_cases h3 : left - ((rd_T100 l (i : Int)).f1.length : Int) < 0
    · rw [if_pos h3, bind_some_, if_pos (by omega), bind_some_, if_pos (by omega)]
      exact ⟨_, rfl, Or.inl (by omega)⟩
    · rw [if_neg h3, bind_some_, if_neg h3, bind_some_, if_neg h3]
      refine ih k (i + 1) _ (by omega) (by omega) (by omega) (by omega) ?_
      intro j hj2
      by_cases e : j = i
      · rw [e]; omega
      · exact hj j (by omega)
theorem szStopS_is (k : Nat) (l : List S100) (left : Int) (hb : l.length ≤ 9223372036854775807) (hw : ∀ s ∈ l, s.f1.length ≤ 9223372036854775807) (hl : 0 ≤ left) (hl2 : left ≤ 1048576) (hk : 1048577 < k) : ∃ r, laws_szStopS.f k l left = some r ∧ (r < 0 ∨ (l.length ≤ 1048576 ∧ ∀ s ∈ l, s.f1.length ≤ 1048576)) := by
  unfold laws_szStopS.f
  rw [w64 (left - (l.length : Int)) (by omega) (by omega)]
  by_cases h3 : left - (l.length : Int) < 0
  · rw [if_pos h3]
    exact ⟨_, rfl, Or.inl (by omega)⟩
  · rw [if_neg h3]
    obtain ⟨r, hr, hs⟩ := szStopS_loop l (by omega) hw l.length k 0 (left - (l.length : Int)) (by omega) (by omega) (by omega) (by omega) (by intro j hj; omega)
    exact ⟨r, hr, hs.imp id (fun h => ⟨by omega, h.2⟩)⟩
theorem eqStopS_loop (a : List S106) (hs : shortS a) : ∀ (d k i : Nat), i + d = a.length → d + 1048576 < k → laws_eqStopS.l0 k a a i = some true := by
  intro d
  have hb := hs.1
  induction d with
  | zero =>
    intro k i hi hk
    obtain ⟨k, rfl⟩ : ∃ m, k = m + 1 := ⟨k - 1, by omega⟩
    simp only [laws_eqStopS.l0]
    rw [if_neg (by omega)]
  | succ d ih =>
    intro k i hi hk
    obtain ⟨k, rfl⟩ : ∃ m, k = m + 1 := ⟨k - 1, by omega⟩
    have h1 := shortS_at hs i (by omega)
    simp only [laws_eqStopS.l0, laws_eqStop.f, if_true]
    rw [if_pos (by omega), if_pos (by omega), if_pos (by omega), eqInt_is k _ _ (by omega) (by omega), bind_some_, if_pos (decide_eq_true rfl), bind_some_, if_pos rfl, w64s i (by omega)]
    exact ih k (i + 1) (by omega) (by omega)
theorem eqStopS_refl (k : Nat) (a : List S106) (hs : shortS a) (hk : a.length + 1048576 < k) : laws_eqStopS.f k a a = some true := by
  unfold laws_eqStopS.f
  rw [if_pos rfl]
  exact eqStopS_loop a hs a.length k 0 (by omega) hk

end Go.Proofs.Ytagmaflnnaonjaa.P
/- What is asked of a plan, as the program asks it. -/
namespace Go.Proofs.Ytagmaflnnaonjaa.P
open Go.RowKit Go.Proofs.Ytagmaflnnaonjaa.P Go.Proofs.YtagmaflnnaonjaaW.PrintWords Go.Proofs.YtagmaflnnaonjaaW.PrintLast Go.Proofs.YtagmaflnnaonjaaW.PrintMore
set_option linter.unusedVariables false
set_option linter.unusedSimpArgs false
theorem implPlan_l0 (cs : List S154) (fc st : List Int) (x y : Int) (p : List S106) (hc : cs.length ≤ 1048576) (hs : st.length ≤ 1048576) (hp : shortS p) : ∀ (d k i : Nat), i + d = p.length → d + 1048577 < k → impl_IsPlan.l0 k p p p.length i cs fc st x y = some (upTo (stopOk cs.length st p) d i) := by
  intro d
  have hb := hp.1
  induction d with
  | zero =>
    intro k i hi hk
    obtain ⟨k, rfl⟩ : ∃ m, k = m + 1 := ⟨k - 1, by omega⟩
    simp only [impl_IsPlan.l0]
    rw [if_neg (by omega)]
    rfl
  | succ d ih =>
    intro k i hi hk
    obtain ⟨k, rfl⟩ : ∃ m, k = m + 1 := ⟨k - 1, by omega⟩
    have hz := ih k (i + 1) (by omega) (by omega)
    have h1 := shortS_at hp i (by omega)
    simp only [impl_IsPlan.l0]
    rw [if_pos (by omega), if_pos (by omega), if_pos (by omega), implContains_is k st _ (by omega) (by omega), implRises_is k _ _ (by omega) (by omega)]
    simp only [bind_some_]
    rw [w64s i (by omega)]
    by_cases h : i = 0
    · rw [if_neg (show ¬ (i : Int) > 0 by omega)]
      have hrest := ite_tc (decide ((rd_T106 p (i : Int)).f0 ∈ st)) _ _ (ite_fc (((rd_T106 p (i : Int)).f1.length : Int) = 0) _ _ (ite_tc (rises (rd_T106 p (i : Int)).f1 0 (wrap64 ((cs.length : Int) - 1))) _ _ hz))
      rw [hrest]
      simp only [upTo, stopOk]
      simp [h, Bool.and_assoc]
    · have e : wrap64 ((i : Int) - 1) = ((i - 1 : Nat) : Int) := by rw [w64 _ (by omega) (by omega)]; omega
      rw [if_pos (show (i : Int) > 0 by omega), e, if_pos (show (0 : Int) ≤ ((i - 1 : Nat) : Int) by omega), if_pos (show ((i - 1 : Nat) : Int) < (p.length : Int) by omega)]
      have hrest := ite_tc (decide ((rd_T106 p (i : Int)).f0 ∈ st)) _ _ (ite_fc (((rd_T106 p (i : Int)).f1.length : Int) = 0) _ _ (ite_tc (rises (rd_T106 p (i : Int)).f1 0 (wrap64 ((cs.length : Int) - 1))) _ _ (ite_fc ((rd_T106 p ((i - 1 : Nat) : Int)).f0 ≥ (rd_T106 p (i : Int)).f0) _ _ hz)))
      rw [hrest, not_ge_dec]
      simp only [upTo, stopOk]
      rw [decide_eq_false h, Bool.false_or]
      simp only [Bool.and_assoc]
theorem implIsPlan_is (k : Nat) (cs : List S154) (fc st : List Int) (x y : Int) (p : List S106) (hc : cs.length ≤ 1048576) (hb : fc.length ≤ 1048576) (hs : st.length ≤ 1048576) (hp : shortS p) (hk : cs.length + fc.length + st.length + p.length + 1048580 < k) : impl_IsPlan.f k cs fc st x y p = some (hdOk cs fc st x y && planOk cs.length st p) := by
  unfold impl_IsPlan.f planOk
  rw [implHead_is k cs fc st x y hc hb hs (by omega), bind_some_]
  exact ite_tc _ _ _ (implPlan_l0 cs fc st x y p hc hs hp p.length k 0 (by omega) (by omega))

end Go.Proofs.Ytagmaflnnaonjaa.P
/- How far a cutter lasts, plainly. -/
namespace Go.Proofs.Ytagmaflnnaonjaa.P
open Go.RowKit Go.Proofs.Ytagmaflnnaonjaa.P Go.Proofs.YtagmaflnnaonjaaW.PrintWords Go.Proofs.YtagmaflnnaonjaaW.PrintLast Go.Proofs.YtagmaflnnaonjaaW.PrintMore
set_option linter.unusedVariables false
set_option linter.unusedSimpArgs false
def reachGo (ax lim : Int) (fc : List Int) : Nat → Nat → Int → Nat
  | 0, i, _ => i
  | d + 1, i, s => if wrap64 (s + wrap64 (ax * rd fc (i : Int))) > lim then i else reachGo ax lim fc d (i + 1) (wrap64 (s + wrap64 (ax * rd fc (i : Int))))
def reachOf (cs : List S154) (fc : List Int) (a b : Nat) (s : Int) : Nat := reachGo (rd_T154 cs (a : Int)).f0 (rd_T154 cs (a : Int)).f1 fc (fc.length - b) b s
end Go.Proofs.Ytagmaflnnaonjaa.P
/- The stints of a cutter, plainly. -/
namespace Go.Proofs.Ytagmaflnnaonjaa.P
open Go.RowKit Go.Proofs.Ytagmaflnnaonjaa.P Go.Proofs.YtagmaflnnaonjaaW.PrintWords Go.Proofs.YtagmaflnnaonjaaW.PrintLast Go.Proofs.YtagmaflnnaonjaaW.PrintMore
set_option linter.unusedVariables false
set_option linter.unusedSimpArgs false
def nextOf (st : List Int) (b t : Int) : Nat → Nat → Int → Int
  | 0, _, c => c
  | d + 1, i, c => nextOf st b t d (i + 1) (if rd st (i : Int) > b then (if rd st (i : Int) ≤ t then rd st (i : Int) else c) else c)
def stintsGo (cs : List S154) (fc st : List Int) (a : Nat) : Nat → Nat → List (List Int) → List (List Int) × Bool
  | 0, _, _ => ([], false)
  | d + 1, b, acc => if ((reachOf cs fc a b 0 : Nat) : Int) = (fc.length : Int) then (acc, true) else
      if nextOf st b (reachOf cs fc a b 0 : Nat) st.length 0 (-1) < 0 then ([], false) else
      stintsGo cs fc st a d (nextOf st b (reachOf cs fc a b 0 : Nat) st.length 0 (-1)).toNat (acc ++ [[(b : Int), ((reachOf cs fc a b 0 : Nat) : Int)]])
def stints (cs : List S154) (fc st : List Int) (a : Nat) : List (List Int) × Bool := stintsGo cs fc st a (fc.length + 1) 0 []
end Go.Proofs.Ytagmaflnnaonjaa.P
/- The bound on a head's cost, plainly. -/
namespace Go.Proofs.Ytagmaflnnaonjaa.P
open Go.RowKit Go.Proofs.Ytagmaflnnaonjaa.P Go.Proofs.YtagmaflnnaonjaaW.PrintWords Go.Proofs.YtagmaflnnaonjaaW.PrintLast Go.Proofs.YtagmaflnnaonjaaW.PrintMore
set_option linter.unusedVariables false
set_option linter.unusedSimpArgs false
theorem hdOk_in {cs : List S154} {fc st : List Int} {x y : Int} (h : hdOk cs fc st x y = true) : cs.length ≤ 5 ∧ fc.length ≤ 60 ∧ st.length ≤ 8 ∧ (0 ≤ x ∧ x ≤ 10000) ∧ (0 ≤ y ∧ y ≤ 10000) := by
  unfold hdOk at h
  simp only [Bool.and_eq_true, decide_eq_true_eq] at h
  obtain ⟨h1, h2, h3, _, _, _, h4, h5⟩ := h
  exact ⟨by omega, by omega, by omega, h4, h5⟩

end Go.Proofs.Ytagmaflnnaonjaa.P
/- How worn the cutters are, plainly. -/
namespace Go.Proofs.Ytagmaflnnaonjaa.P
open Go.RowKit Go.Proofs.Ytagmaflnnaonjaa.P Go.Proofs.YtagmaflnnaonjaaW.PrintWords Go.Proofs.YtagmaflnnaonjaaW.PrintLast Go.Proofs.YtagmaflnnaonjaaW.PrintMore
set_option linter.unusedVariables false
set_option linter.unusedSimpArgs false
theorem rises_mem {l : List Int} {lo hi : Int} (h : rises l lo hi = true) : ∀ c ∈ l, lo ≤ c ∧ c ≤ hi := by
  intro c hc
  obtain ⟨i, hi, rfl⟩ := List.getElem_of_mem hc
  unfold rises at h
  have h2 := (upTo_iff _ _ _).mp h i (by omega) (by omega)
  simp only [riseOk, Bool.and_eq_true, decide_eq_true_eq] at h2
  rw [rd_at l i hi] at h2
  exact h2.1
theorem hd_cut {cs : List S154} {fc st : List Int} {x y : Int} (h : hdOk cs fc st x y = true) (i : Nat) (hi : i < cs.length) : (1 ≤ (rd_T154 cs i).f0 ∧ (rd_T154 cs i).f0 ≤ 100) ∧ (1 ≤ (rd_T154 cs i).f1 ∧ (rd_T154 cs i).f1 ≤ 1000000) := by
  unfold hdOk at h
  simp only [Bool.and_eq_true, decide_eq_true_eq] at h
  have h2 := (upTo_iff _ _ _).mp h.2.2.2.2.1 i (by omega) (by omega)
  simpa only [cuOk, Bool.and_eq_true, decide_eq_true_eq] using h2
theorem hd_hard {cs : List S154} {fc st : List Int} {x y : Int} (h : hdOk cs fc st x y = true) (i : Nat) (hi : i < fc.length) : 0 ≤ rd fc (i : Int) ∧ rd fc (i : Int) ≤ 100 := by
  unfold hdOk impl_areWithin.all at h
  simp only [Bool.and_eq_true, decide_eq_true_eq, List.all_eq_true] at h
  rw [rd_at fc i hi]
  exact h.2.2.2.2.2.1 _ (List.getElem_mem hi)
theorem mul100 (a b : Int) (ha : 0 ≤ a ∧ a ≤ 100) (hb : 0 ≤ b ∧ b ≤ 100) : 0 ≤ a * b ∧ a * b ≤ 10000 := by
  constructor
  · exact Int.mul_nonneg ha.1 hb.1
  · have h1 : a * b ≤ 100 * b := Int.mul_le_mul_of_nonneg_right ha.2 hb.1
    omega
def chg (p : List S106) (c n : Int) : Bool := p.any fun s => decide (s.f0 = n) && decide (c ∈ s.f1)
def wearStep (cs : List S154) (fc : List Int) (c n : Nat) : Int := (rd_T154 cs (c : Int)).f0 * rd fc (n : Int)
def wearP (cs : List S154) (fc : List Int) (p : List S106) (c : Nat) : Nat → Int
  | 0 => 0
  | n + 1 => if chg p c ((n + 1 : Nat) : Int) = true then 0 else wearP cs fc p c n + wearStep cs fc c n
def wearIn (cs : List S154) (fc : List Int) (p : List S106) (c : Nat) : Nat → Int
  | 0 => 0
  | n + 1 => wearP cs fc p c n + wearStep cs fc c n
theorem wearP_eq (cs : List S154) (fc : List Int) (p : List S106) (c n : Nat) : wearP cs fc p c n = if chg p c (n : Int) = true then 0 else wearIn cs fc p c n := by
  cases n with
  | zero => simp [wearP, wearIn]
  | succ n => rfl
theorem step_in {cs : List S154} {fc st : List Int} {x y : Int} (h : hdOk cs fc st x y = true) (c n : Nat) (hc : c < cs.length) (hn : n < fc.length) : 0 ≤ wearStep cs fc c n ∧ wearStep cs fc c n ≤ 10000 := by
  have h1 := (hd_cut h c hc).1
  have h2 := hd_hard h n hn
  exact mul100 _ _ ⟨by omega, h1.2⟩ h2
theorem wearP_in {cs : List S154} {fc st : List Int} {x y : Int} (p : List S106) (h : hdOk cs fc st x y = true) (c : Nat) (hc : c < cs.length) : ∀ n : Nat, n ≤ fc.length → 0 ≤ wearP cs fc p c n ∧ wearP cs fc p c n ≤ 10000 * n
  | 0, _ => by simp [wearP]
  | n + 1, hn => by
    have h1 := wearP_in p h c hc n (by omega)
    have h2 := step_in h c n hc (by omega)
    simp only [wearP]
    split <;> omega
def planIn (n : Nat) (p : List S106) : Prop := shortS p ∧ ∀ s ∈ p, ∀ c ∈ s.f1, 0 ≤ c ∧ c < n
theorem planOk_in {n : Nat} {st : List Int} {p : List S106} (hn : n ≤ 1048576) (hp : shortS p) (h : planOk n st p = true) : planIn n p := by
  refine ⟨hp, ?_⟩
  intro s hs c hc
  obtain ⟨i, hi, rfl⟩ := List.getElem_of_mem hs
  unfold planOk at h
  have h2 := (upTo_iff _ _ _).mp h i (by omega) (by omega)
  simp only [stopOk, Bool.and_eq_true] at h2
  have h3 := rises_mem h2.2.2.1
  rw [rdStop_at p i hi] at h3
  have h4 := h3 c hc
  rw [w64 _ (by omega) (by omega)] at h4
  omega
def failC (cs : List S154) (fc : List Int) (p : List S106) (n : Nat) : Nat → Nat → Option Nat
  | 0, _ => none
  | d + 1, c => if wearP cs fc p c n + wearStep cs fc c n > (rd_T154 cs (c : Int)).f1 then some c else failC cs fc p n d (c + 1)
def failN (cs : List S154) (fc : List Int) (p : List S106) : Nat → Nat → Option (Nat × Nat)
  | 0, _ => none
  | d + 1, n => match failC cs fc p n cs.length 0 with
    | some c => some (c, n)
    | none => failN cs fc p d (n + 1)
def failP (cs : List S154) (fc : List Int) (p : List S106) : Option (Nat × Nat) := failN cs fc p fc.length 0

end Go.Proofs.Ytagmaflnnaonjaa.P
/- A list that is told by what stands at each place. -/
namespace Go.Proofs.Ytagmaflnnaonjaa.P
open Go.RowKit Go.Proofs.Ytagmaflnnaonjaa.P Go.Proofs.YtagmaflnnaonjaaW.PrintWords Go.Proofs.YtagmaflnnaonjaaW.PrintLast Go.Proofs.YtagmaflnnaonjaaW.PrintMore
set_option linter.unusedVariables false
set_option linter.unusedSimpArgs false
def wl (n : Nat) (f : Nat → Int) : List Int := (List.range n).map f
theorem wl_len (n : Nat) (f : Nat → Int) : (wl n f).length = n := by simp [wl]
theorem wl_get (n : Nat) (f : Nat → Int) (i : Nat) (h : i < (wl n f).length) : (wl n f)[i] = f i := by simp [wl]
theorem wl_rd (n : Nat) (f : Nat → Int) (i : Nat) (h : i < n) : rd (wl n f) (i : Int) = f i := by
  rw [rd_at _ i (by rw [wl_len]; exact h), wl_get]
theorem wl_congr (n : Nat) (f g : Nat → Int) (h : ∀ c, c < n → f c = g c) : wl n f = wl n g := by
  unfold wl
  apply List.map_congr_left
  intro c hc
  exact h c (List.mem_range.mp hc)
theorem wl_set (n : Nat) (f : Nat → Int) (i : Nat) (v : Int) : (wl n f).set i v = wl n (fun c => if c = i then v else f c) := by
  apply List.ext_getElem
  · rw [List.length_set, wl_len, wl_len]
  · intro j h1 h2
    rw [List.getElem_set, wl_get, wl_get]
    by_cases e : i = j
    · rw [if_pos e]
      show v = if j = i then v else f j
      rw [if_pos e.symm]
    · rw [if_neg e]
      show f j = if j = i then v else f j
      rw [if_neg (fun q : j = i => e q.symm)]
theorem wl_zero (n : Nat) : List.replicate n (0 : Int) = wl n (fun _ => 0) := by
  apply List.ext_getElem
  · rw [List.length_replicate, wl_len]
  · intro j h1 h2
    rw [wl_get, List.getElem_replicate]
end Go.Proofs.Ytagmaflnnaonjaa.P
/- How worn the cutters are, as the program reckons it. -/
namespace Go.Proofs.Ytagmaflnnaonjaa.P
open Go.RowKit Go.Proofs.Ytagmaflnnaonjaa.P Go.Proofs.YtagmaflnnaonjaaW.PrintWords Go.Proofs.YtagmaflnnaonjaaW.PrintLast Go.Proofs.YtagmaflnnaonjaaW.PrintMore
set_option linter.unusedVariables false
set_option linter.unusedSimpArgs false
theorem implWorn_l2 (cs : List S154) (fc st : List Int) (x y : Int) (p pl : List S106) (R n m i : Int) (ch : List Int) (hl : ch.length ≤ 1048576) (hch : ∀ c ∈ ch, 0 ≤ c ∧ c < cs.length) (F : Nat → Int) (out : Option (List Int)) (B : Nat)
    (hcont : ∀ k, B ≤ k → impl_Head_worn.l1 k p R (wl cs.length F) n pl m (wrap64 (i + 1)) cs fc st x y = out) : ∀ (d k j : Nat) (f : Nat → Int), j + d = ch.length → B + d < k → (∀ c : Nat, (if (c : Int) ∈ ch.drop j then 0 else f c) = F c) → impl_Head_worn.l2 k p R (wl cs.length f) n pl m i ch ch.length j cs fc st x y = out := by
  intro d
  induction d with
  | zero =>
    intro k j f hj hk hf
    obtain ⟨k, rfl⟩ : ∃ m, k = m + 1 := ⟨k - 1, by omega⟩
    simp only [impl_Head_worn.l2]
    rw [if_neg (by omega)]
    have e : f = F := by
      funext c
      have := hf c
      rw [List.drop_of_length_le (by omega)] at this
      simpa using this
    rw [e]
    exact hcont k (by omega)
  | succ d ih =>
    intro k j f hj hk hf
    obtain ⟨k, rfl⟩ : ∃ m, k = m + 1 := ⟨k - 1, by omega⟩
    have hc := hch _ (List.getElem_mem (show j < ch.length by omega))
    rw [← rd_at ch j (by omega)] at hc
    obtain ⟨q, hq⟩ : ∃ q : Nat, rd ch (j : Int) = q := ⟨(rd ch (j : Int)).toNat, by omega⟩
    simp only [impl_Head_worn.l2]
    rw [if_pos (by omega), if_pos (by omega), if_pos (by omega), if_pos hc.1, if_pos (by rw [wl_len]; exact hc.2), hq, Int.toNat_natCast, wl_set, w64s j (by omega)]
    refine ih k (j + 1) _ (by omega) (by omega) ?_
    intro c
    rw [← hf c, drop_at ch j (by omega), hq]
    by_cases h1 : c = q
    · subst h1
      simp
    · have h2 : ¬ (c : Int) = (q : Int) := by omega
      simp [h1, h2]
theorem implWorn_l1 (M : Nat) (hM : 1048580 ≤ M) (cs : List S154) (fc st : List Int) (x y : Int) (p : List S106) (R n : Int) (hp : planIn cs.length p) (F : Nat → Int) (out : Option (List Int)) (B : Nat)
    (hcont : ∀ k, B ≤ k → impl_Head_worn.l3 k p R (wl cs.length F) n cs cs.length 0 cs fc st x y = out) : ∀ (d k i : Nat) (f : Nat → Int), i + d = p.length → B + d * M < k → (∀ c : Nat, (if chg (p.drop i) c n = true then 0 else f c) = F c) → impl_Head_worn.l1 k p R (wl cs.length f) n p p.length i cs fc st x y = out := by
  intro d
  have hb := hp.1.1
  induction d with
  | zero =>
    intro k i f hj hk hf
    obtain ⟨k, rfl⟩ : ∃ m, k = m + 1 := ⟨k - 1, by omega⟩
    simp only [impl_Head_worn.l1]
    rw [if_neg (by omega)]
    have e : f = F := by
      funext c
      have := hf c
      rw [List.drop_of_length_le (by omega)] at this
      simpa [chg] using this
    rw [e]
    exact hcont k (by omega)
  | succ d ih =>
    intro k i f hj hk hf
    obtain ⟨k, rfl⟩ : ∃ m, k = m + 1 := ⟨k - 1, by omega⟩
    have hlt : i < p.length := by omega
    have hdm : (d + 1) * M = d * M + M := Nat.succ_mul d M
    have hs := shortS_at hp.1 i hlt
    have hm := hp.2 _ (List.getElem_mem hlt)
    rw [← rdStop_at p i hlt] at hm
    have hd : p.drop i = rd_T106 p (i : Int) :: p.drop (i + 1) := by rw [rdStop_at p i hlt, List.drop_eq_getElem_cons hlt]
    simp only [impl_Head_worn.l1]
    rw [if_pos (by omega), if_pos (by omega), if_pos (by omega)]
    by_cases h1 : (rd_T106 p (i : Int)).f0 = n
    · rw [if_pos h1]
      refine implWorn_l2 cs fc st x y p p R n p.length i _ hs hm (fun c => if (c : Int) ∈ (rd_T106 p (i : Int)).f1 then 0 else f c) out (B + d * M + 1) ?_ (rd_T106 p (i : Int)).f1.length k 0 f (by omega) (by omega) ?_
      · intro k2 hk2
        rw [w64s i (by omega)]
        refine ih k2 (i + 1) _ (by omega) (by omega) ?_
        intro c
        rw [← hf c, hd]
        simp only [chg, List.any_cons]
        by_cases h2 : (c : Int) ∈ (rd_T106 p (i : Int)).f1
        · simp [h1, h2]
        · simp [h2]
      · intro c
        rw [List.drop_zero]
    · rw [if_neg h1, w64s i (by omega)]
      refine ih k (i + 1) _ (by omega) (by omega) ?_
      intro c
      rw [← hf c, hd]
      simp [chg, h1]
theorem implWorn_l3a (cs : List S154) (fc st : List Int) (x y : Int) (hh : hdOk cs fc st x y = true) (p : List S106) (R n : Nat) (hn : n < R) (hR : R ≤ fc.length) (F : Nat → Int) (out : Option (List Int)) (B : Nat)
    (hcont : ∀ k, B ≤ k → impl_Head_worn.l0 k p R (wl cs.length F) ((n + 1 : Nat) : Int) cs fc st x y = out) : ∀ (d k j : Nat) (f : Nat → Int), j + d = cs.length → B + d < k → (∀ c : Nat, j ≤ c → c < cs.length → 0 ≤ f c ∧ f c ≤ 10000000) → (∀ c : Nat, c < cs.length → (if j ≤ c then f c + wearStep cs fc c n else f c) = F c) → impl_Head_worn.l3 k p R (wl cs.length f) n cs cs.length j cs fc st x y = out := by
  intro d
  have hin := hdOk_in hh
  induction d with
  | zero =>
    intro k j f hj hk hf hF
    obtain ⟨k, rfl⟩ : ∃ m, k = m + 1 := ⟨k - 1, by omega⟩
    simp only [impl_Head_worn.l3]
    rw [if_neg (by omega), w64s n (by omega), wl_congr cs.length f F (fun c hc => by have := hF c hc; rwa [if_neg (by omega)] at this)]
    exact hcont k (by omega)
  | succ d ih =>
    intro k j f hj hk hf hF
    obtain ⟨k, rfl⟩ : ∃ m, k = m + 1 := ⟨k - 1, by omega⟩
    have h1 := hf j (Nat.le_refl _) (by omega)
    have h2 := step_in hh j n (by omega) (by omega)
    have e1 : wrap64 ((rd_T154 cs (j : Int)).f0 * rd fc (n : Int)) = wearStep cs fc j n := by
      unfold wearStep at h2 ⊢
      rw [w64 _ (by omega) (by omega)]
    simp only [impl_Head_worn.l3]
    rw [if_pos (by omega), if_pos (by omega), if_pos (by omega), if_pos (by omega), if_pos (by rw [wl_len]; omega), if_pos (by omega), if_pos (by omega), e1, wl_rd _ _ j (by omega), w64 (f j + wearStep cs fc j n) (by omega) (by omega), Int.toNat_natCast, wl_set, w64s j (by omega)]
    refine ih k (j + 1) _ (by omega) (by omega) ?_ ?_
    · intro c h3 h4
      rw [if_neg (by omega)]
      exact hf c (by omega) h4
    · intro c h3
      rw [← hF c h3]
      by_cases h4 : c = j
      · subst h4
        rw [if_neg (by omega), if_pos rfl, if_pos (Nat.le_refl _)]
      · by_cases h5 : j ≤ c
        · rw [if_pos (by omega), if_neg h4, if_pos h5]
        · rw [if_neg (by omega), if_neg h4, if_neg h5]
theorem implWorn_l3b (cs : List S154) (fc st : List Int) (x y : Int) (p : List S106) (R : Nat) (hR : R ≤ 1048576) (hc : cs.length ≤ 1048576) (o : List Int) (out : Option (List Int)) (B : Nat)
    (hcont : ∀ k, B ≤ k → impl_Head_worn.l0 k p R o ((R + 1 : Nat) : Int) cs fc st x y = out) : ∀ (d k j : Nat), j + d = cs.length → B + d < k → impl_Head_worn.l3 k p R o R cs cs.length j cs fc st x y = out := by
  intro d
  induction d with
  | zero =>
    intro k j hj hk
    obtain ⟨k, rfl⟩ : ∃ m, k = m + 1 := ⟨k - 1, by omega⟩
    simp only [impl_Head_worn.l3]
    rw [if_neg (by omega), w64s R (by omega)]
    exact hcont k (by omega)
  | succ d ih =>
    intro k j hj hk
    obtain ⟨k, rfl⟩ : ∃ m, k = m + 1 := ⟨k - 1, by omega⟩
    simp only [impl_Head_worn.l3]
    rw [if_pos (by omega), if_pos (by omega), if_pos (by omega), if_neg (by omega), w64s j (by omega)]
    exact ih k (j + 1) (by omega) (by omega)
theorem implWorn_l0 (M C : Nat) (hM : 1048580 ≤ M) (cs : List S154) (fc st : List Int) (x y : Int) (hh : hdOk cs fc st x y = true) (p : List S106) (hp : planIn cs.length p) (R : Nat) (hR : R ≤ fc.length) (hC : p.length * M + 1000 ≤ C) : ∀ (e k n : Nat), n + e = R → (e + 1) * C < k → impl_Head_worn.l0 k p R (wl cs.length (fun c => wearIn cs fc p c n)) n cs fc st x y = some (wl cs.length (fun c => wearP cs fc p c R)) := by
  intro e
  have hin := hdOk_in hh
  have hb := hp.1.1
  induction e with
  | zero =>
    intro k n hn hk
    rw [Nat.zero_add, Nat.one_mul] at hk
    have hn2 : n = R := by omega
    subst hn2
    obtain ⟨k, rfl⟩ : ∃ m, k = m + 1 := ⟨k - 1, by omega⟩
    simp only [impl_Head_worn.l0]
    rw [if_pos (Int.le_refl _)]
    refine implWorn_l1 M hM cs fc st x y p n n hp (fun c => wearP cs fc p c n) _ 100 ?_ p.length k 0 _ (by omega) (by omega) ?_
    · intro k2 hk2
      refine implWorn_l3b cs fc st x y p n (by omega) (by omega) _ _ 1 ?_ cs.length k2 0 (by omega) (by omega)
      intro k3 hk3
      obtain ⟨k3, rfl⟩ : ∃ m, k3 = m + 1 := ⟨k3 - 1, by omega⟩
      simp only [impl_Head_worn.l0]
      rw [if_neg (by omega)]
    · intro c
      rw [List.drop_zero, wearP_eq]
  | succ e ih =>
    intro k n hn hk
    have hec : (e + 1 + 1) * C = (e + 1) * C + C := Nat.succ_mul (e + 1) C
    obtain ⟨k, rfl⟩ : ∃ m, k = m + 1 := ⟨k - 1, by omega⟩
    simp only [impl_Head_worn.l0]
    rw [if_pos (by omega)]
    refine implWorn_l1 M hM cs fc st x y p R n hp (fun c => wearP cs fc p c n) _ ((e + 1) * C + 100) ?_ p.length k 0 _ (by omega) (by omega) ?_
    · intro k2 hk2
      refine implWorn_l3a cs fc st x y hh p R n (by omega) hR (fun c => wearIn cs fc p c (n + 1)) _ ((e + 1) * C + 1) ?_ cs.length k2 0 _ (by omega) (by omega) ?_ ?_
      · intro k3 hk3
        exact ih k3 (n + 1) (by omega) (by omega)
      · intro c _ hc
        have := wearP_in p hh c hc n (by omega)
        omega
      · intro c hc
        rw [if_pos (Nat.zero_le _)]
        rfl
    · intro c
      rw [List.drop_zero, wearP_eq]
def wearOk (n : Nat) : Prop := 61 * 1099515900000 < n
theorem implWorn_is (wearK : Nat) (hW : wearOk wearK) (k : Nat) (cs : List S154) (fc st : List Int) (x y : Int) (hh : hdOk cs fc st x y = true) (p : List S106) (hp : planIn cs.length p) (R : Nat) (hR : R ≤ fc.length) (hk : wearK ≤ k) : impl_Head_worn.f k cs fc st x y p R = some (wl cs.length (fun c => wearP cs fc p c R)) := by
  have hin := hdOk_in hh
  have h1 : p.length * 1048580 ≤ 1048576 * 1048580 := Nat.mul_le_mul_right _ hp.1.1
  have h2 : (1048576 * 1048580 + 1000 : Nat) ≤ 1099515900000 := by decide
  have h3 : (R + 1) * 1099515900000 ≤ 61 * 1099515900000 := Nat.mul_le_mul_right _ (by omega)
  have h4 : 61 * 1099515900000 < wearK := hW
  unfold impl_Head_worn.f
  rw [if_pos (by omega), if_pos (by omega), Int.toNat_natCast, wl_zero]
  exact implWorn_l0 1048580 1099515900000 (Nat.le_refl _) cs fc st x y hh p hp R hR (Nat.le_trans (Nat.add_le_add_right h1 1000) h2) R k 0 (by omega) (Nat.lt_of_le_of_lt h3 (Nat.lt_of_lt_of_le h4 hk))
theorem implFail_l1 (cs : List S154) (fc st : List Int) (x y : Int) (hh : hdOk cs fc st x y = true) (p : List S106) (n : Nat) (hn : n < fc.length) (m : Int) (out : Option (Int × Int)) (B : Nat)
    (hcont : failC cs fc p n cs.length 0 = none → ∀ k, B ≤ k → impl_Head_failure.l0 k p fc m ((n + 1 : Nat) : Int) cs fc st x y = out) (hfound : ∀ c, failC cs fc p n cs.length 0 = some c → out = some ((c : Int), (n : Int))) : ∀ (d k j : Nat), j + d = cs.length → B + d < k → failC cs fc p n d j = failC cs fc p n cs.length 0 → impl_Head_failure.l1 k p n (rd fc (n : Int)) (wl cs.length (fun c => wearP cs fc p c n)) fc m n cs cs.length j cs fc st x y = out := by
  intro d
  have hin := hdOk_in hh
  induction d with
  | zero =>
    intro k j hj hk he
    obtain ⟨k, rfl⟩ : ∃ m, k = m + 1 := ⟨k - 1, by omega⟩
    simp only [impl_Head_failure.l1]
    rw [if_neg (by omega), w64s n (by omega)]
    exact hcont (by rw [← he]; rfl) k (by omega)
  | succ d ih =>
    intro k j hj hk he
    obtain ⟨k, rfl⟩ : ∃ m, k = m + 1 := ⟨k - 1, by omega⟩
    have h1 := wearP_in p hh j (by omega) n (by omega)
    have h2 := step_in hh j n (by omega) hn
    have e1 : wrap64 ((rd_T154 cs (j : Int)).f0 * rd fc (n : Int)) = wearStep cs fc j n := by
      unfold wearStep at h2 ⊢
      rw [w64 _ (by omega) (by omega)]
    simp only [impl_Head_failure.l1]
    rw [if_pos (by omega), if_pos (by omega), if_pos (by omega), if_pos (by rw [wl_len]; omega), e1, wl_rd _ _ j (by omega), w64 (wearP cs fc p j n + wearStep cs fc j n) (by omega) (by omega), w64s j (by omega)]
    simp only [failC] at he
    by_cases h3 : wearP cs fc p j n + wearStep cs fc j n > (rd_T154 cs (j : Int)).f1
    · rw [if_pos h3] at he ⊢
      exact (hfound j he.symm).symm
    · rw [if_neg h3] at he ⊢
      exact ih k (j + 1) (by omega) (by omega) he
theorem implFail_l0 (wearK : Nat) (hW : wearOk wearK) (cs : List S154) (fc st : List Int) (x y : Int) (hh : hdOk cs fc st x y = true) (p : List S106) (hp : planIn cs.length p) : ∀ (d k n : Nat), n + d = fc.length → wearK + 100 * d < k → impl_Head_failure.l0 k p fc fc.length n cs fc st x y = some (match failN cs fc p d n with | some (c, n) => ((c : Int), (n : Int)) | none => (-1, -1)) := by
  intro d
  have hin := hdOk_in hh
  induction d with
  | zero =>
    intro k n hn hk
    obtain ⟨k, rfl⟩ : ∃ m, k = m + 1 := ⟨k - 1, by omega⟩
    simp only [impl_Head_failure.l0, failN]
    rw [if_neg (by omega)]
  | succ d ih =>
    intro k n hn hk
    obtain ⟨k, rfl⟩ : ∃ m, k = m + 1 := ⟨k - 1, by omega⟩
    simp only [impl_Head_failure.l0, failN]
    rw [if_pos (by omega), if_pos (by omega), if_pos (by omega), implWorn_is wearK hW k cs fc st x y hh p hp n (by omega) (by omega), bind_some_]
    refine implFail_l1 cs fc st x y hh p n (by omega) _ _ (wearK + 100 * d + 1) ?_ ?_ cs.length k 0 (by omega) (by omega) rfl
    · intro h1 k2 hk2
      rw [h1]
      exact ih k2 (n + 1) (by omega) (by omega)
    · intro c hc
      rw [hc]
theorem implFail_is (wearK : Nat) (hW : wearOk wearK) (k : Nat) (cs : List S154) (fc st : List Int) (x y : Int) (hh : hdOk cs fc st x y = true) (p : List S106) (hp : planIn cs.length p) (hk : wearK + 10000 ≤ k) : impl_Head_failure.f k cs fc st x y p = some (match failP cs fc p with | some (c, n) => ((c : Int), (n : Int)) | none => (-1, -1)) := by
  have hin := hdOk_in hh
  unfold impl_Head_failure.f failP
  exact implFail_l0 wearK hW cs fc st x y hh p hp fc.length k 0 (by omega) (by omega)

end Go.Proofs.Ytagmaflnnaonjaa.P
/- A valid head with a plan of it; what is told of them. -/
namespace Go.Proofs.Ytagmaflnnaonjaa.P
open Go.RowKit Go.Proofs.Ytagmaflnnaonjaa.P Go.Proofs.YtagmaflnnaonjaaW.PrintWords Go.Proofs.YtagmaflnnaonjaaW.PrintLast Go.Proofs.YtagmaflnnaonjaaW.PrintMore
set_option linter.unusedVariables false
set_option linter.unusedSimpArgs false
def planFine (cs : List S154) (fc st : List Int) (x y : Int) (p : List S106) : Bool := hdOk cs fc st x y && planOk cs.length st p
theorem planFine_in {cs : List S154} {fc st : List Int} {x y : Int} {p : List S106} (hp : shortS p) (h : planFine cs fc st x y p = true) : hdOk cs fc st x y = true ∧ planIn cs.length p := by
  unfold planFine at h
  rw [Bool.and_eq_true] at h
  have := hdOk_in h.1
  exact ⟨h.1, planOk_in (by omega) hp h.2⟩
def firstFailP (cs : List S154) (fc st : List Int) (x y : Int) (p : List S106) : Int × Int × Bool :=
  if planFine cs fc st x y p = true then (match failP cs fc p with | some (c, n) => ((c : Int), (n : Int), true) | none => (0, 0, false)) else (0, 0, false)
end Go.Proofs.Ytagmaflnnaonjaa.P
/- The first failure, as the program answers. -/
namespace Go.Proofs.Ytagmaflnnaonjaa.P
open Go.RowKit Go.Proofs.Ytagmaflnnaonjaa.P Go.Proofs.YtagmaflnnaonjaaW.PrintWords Go.Proofs.YtagmaflnnaonjaaW.PrintLast Go.Proofs.YtagmaflnnaonjaaW.PrintMore
set_option linter.unusedVariables false
set_option linter.unusedSimpArgs false
theorem implFirstFailure_is (wearK : Nat) (hW : wearOk wearK) (k : Nat) (cs : List S154) (fc st : List Int) (x y : Int) (p : List S106) (hc : cs.length ≤ 1048576) (hb : fc.length ≤ 1048576) (hs : st.length ≤ 1048576) (hp : shortS p) (hk : wearK + 10000000 ≤ k) : impl_FirstFailure.f k cs fc st x y p = some (firstFailP cs fc st x y p) := by
  have := hp.1
  unfold impl_FirstFailure.f firstFailP
  rw [implIsPlan_is k cs fc st x y p hc hb hs hp (by omega), bind_some_]
  by_cases h : planFine cs fc st x y p = true
  · obtain ⟨h1, h2⟩ := planFine_in hp h
    rw [if_pos h, implFail_is wearK hW k cs fc st x y h1 p h2 (by omega), bind_some_]
    unfold planFine at h
    rw [if_pos h]
    cases failP cs fc p with
    | none => simp
    | some q =>
      obtain ⟨c, n⟩ := q
      dsimp only
      rw [if_neg (by omega)]
  · rw [if_neg h]
    unfold planFine at h
    rw [if_neg h]

end Go.Proofs.Ytagmaflnnaonjaa.P
/- A list of structs is equal to itself. -/
namespace Go.Proofs.Ytagmaflnnaonjaa.P
open Go.RowKit Go.Proofs.Ytagmaflnnaonjaa.P Go.Proofs.YtagmaflnnaonjaaW.PrintWords Go.Proofs.YtagmaflnnaonjaaW.PrintLast Go.Proofs.YtagmaflnnaonjaaW.PrintMore
set_option linter.unusedVariables false
set_option linter.unusedSimpArgs false
theorem eqCutterS_loop (a : List S154) (hb : a.length ≤ 9223372036854775807) : ∀ (d k i : Nat), i + d = a.length → d < k → laws_eqCutterS.l0 k a a i = some true := by
  intro d
  induction d with
  | zero =>
    intro k i hi hk
    obtain ⟨k, rfl⟩ : ∃ m, k = m + 1 := ⟨k - 1, by omega⟩
    simp only [laws_eqCutterS.l0]
    rw [if_neg (by omega)]
  | succ d ih =>
    intro k i hi hk
    obtain ⟨k, rfl⟩ : ∃ m, k = m + 1 := ⟨k - 1, by omega⟩
    simp only [laws_eqCutterS.l0, laws_eqCutter.f, if_true, bind_some_]
    rw [if_pos (by omega), if_pos (by omega), if_pos (by omega), w64s i (by omega)]
    exact ih k (i + 1) (by omega) (by omega)
theorem eqCutterS_refl (k : Nat) (a : List S154) (hb : a.length ≤ 9223372036854775807) (hk : a.length < k) : laws_eqCutterS.f k a a = some true := by
  unfold laws_eqCutterS.f
  rw [if_pos rfl]
  exact eqCutterS_loop a hb a.length k 0 (by omega) hk

end Go.Proofs.Ytagmaflnnaonjaa.P
/- A list of the law's own structs is copied into the program's. -/
namespace Go.Proofs.Ytagmaflnnaonjaa.P
open Go.RowKit Go.Proofs.Ytagmaflnnaonjaa.P Go.Proofs.YtagmaflnnaonjaaW.PrintWords Go.Proofs.YtagmaflnnaonjaaW.PrintLast Go.Proofs.YtagmaflnnaonjaaW.PrintMore
set_option linter.unusedVariables false
set_option linter.unusedSimpArgs false
def toCutter (x : S156) : S154 := ⟨x.f0, x.f1⟩
theorem rdLCutter_at (l : List S156) (i : Nat) (h : i < l.length) : rd_T156 l (i : Int) = l[i] := by
  unfold rd_T156
  rw [Int.toNat_natCast, List.getD_eq_getElem?_getD, List.getElem?_eq_getElem h]
  rfl
theorem toCutterS_loop (l : List S156) (hb : l.length ≤ 9223372036854775807) : ∀ (d k i : Nat) (acc : List S154), i + d = l.length → d < k → acc.length = l.length → acc.take i = (l.map toCutter).take i → laws_toCutterS.l0 k l acc i = some (l.map toCutter) := by
  intro d
  induction d with
  | zero =>
    intro k i acc hi hk ha ht
    obtain ⟨k, rfl⟩ : ∃ m, k = m + 1 := ⟨k - 1, by omega⟩
    simp only [laws_toCutterS.l0]
    rw [if_neg (by omega)]
    rw [List.take_of_length_le (by omega), List.take_of_length_le (by rw [List.length_map]; omega)] at ht
    rw [ht]
  | succ d ih =>
    intro k i acc hi hk ha ht
    obtain ⟨k, rfl⟩ : ∃ m, k = m + 1 := ⟨k - 1, by omega⟩
    simp only [laws_toCutterS.l0, laws_toCutter.f, bind_some_]
    rw [if_pos (by omega), if_pos (by omega), if_pos (by omega), w64s i (by omega), Int.toNat_natCast]
    refine ih k (i + 1) _ (by omega) (by omega) (by rw [List.length_set]; exact ha) (fill_step (l.map toCutter) acc i _ (by rw [List.length_map]; omega) (by rw [List.length_map]; exact ha) ht ?_)
    rw [List.getElem_map, rdLCutter_at l i (by omega)]
    rfl
theorem toCutterS_is (k : Nat) (l : List S156) (hb : l.length ≤ 1048576) (hk : l.length < k) : laws_toCutterS.f k l = some (l.map toCutter) := by
  unfold laws_toCutterS.f
  rw [if_pos (by omega), if_pos (by omega)]
  exact toCutterS_loop l (by omega) l.length k 0 _ (by omega) hk (by simp) (by simp)

end Go.Proofs.Ytagmaflnnaonjaa.P
/- A head is copied, measured, and equal to itself. -/
namespace Go.Proofs.Ytagmaflnnaonjaa.P
open Go.RowKit Go.Proofs.Ytagmaflnnaonjaa.P Go.Proofs.YtagmaflnnaonjaaW.PrintWords Go.Proofs.YtagmaflnnaonjaaW.PrintLast Go.Proofs.YtagmaflnnaonjaaW.PrintMore
set_option linter.unusedVariables false
set_option linter.unusedSimpArgs false
theorem toHead_is (k : Nat) (cs : List S156) (fc st : List Int) (x y : Int) (hc : cs.length ≤ 1048576) (hb : fc.length ≤ 1048576) (hs : st.length ≤ 1048576) (hk : cs.length + fc.length + st.length < k) : laws_toHead.f k cs fc st x y = some (cs.map toCutter, fc, st, x, y) := by
  unfold laws_toHead.f
  rw [toCutterS_is k cs hc (by omega), bind_some_, toInt_is k fc (by omega) (by omega), bind_some_, toInt_is k st (by omega) (by omega), bind_some_]
theorem eqHead_refl (k : Nat) (cs : List S154) (fc st : List Int) (x y : Int) (hc : cs.length ≤ 1048576) (hb : fc.length ≤ 1048576) (hs : st.length ≤ 1048576) (hk : cs.length + fc.length + st.length < k) : laws_eqHead.f k cs fc st x y cs fc st x y = some true := by
  unfold laws_eqHead.f
  rw [eqCutterS_refl k cs (by omega) (by omega), bind_some_, if_pos rfl, eqInt_is k fc fc (by omega) (by omega), bind_some_, if_pos (decide_eq_true rfl), eqInt_is k st st (by omega) (by omega), bind_some_, if_pos (decide_eq_true rfl), if_pos rfl, if_pos rfl]
theorem szHead_is2 (cs : List S156) (fc st : List Int) (x y : Int) (hc : cs.length ≤ 9223372036854775807) (hb : fc.length ≤ 9223372036854775807) (hs : st.length ≤ 9223372036854775807) : ∃ r, laws_szHead.f cs fc st x y 1048576 = some r ∧ r ≤ 1048576 ∧ (r < 0 ∨ (cs.length ≤ 1048576 ∧ fc.length ≤ 1048576 ∧ st.length ≤ 1048576)) := by
  unfold laws_szHead.f laws_szCutterS.f laws_szInt64S.f
  rw [w64 (1048576 - (cs.length : Int)) (by omega) (by omega)]
  by_cases h1 : 1048576 - (cs.length : Int) < 0
  · rw [if_pos h1, bind_some_, if_pos (by omega)]
    exact ⟨_, rfl, by omega, Or.inl (by omega)⟩
  · rw [if_neg h1, bind_some_, if_neg h1, w64 (1048576 - (cs.length : Int) - (fc.length : Int)) (by omega) (by omega)]
    by_cases h2 : 1048576 - (cs.length : Int) - (fc.length : Int) < 0
    · rw [if_pos h2, bind_some_, if_pos (by omega)]
      exact ⟨_, rfl, by omega, Or.inl (by omega)⟩
    · rw [if_neg h2, bind_some_, if_neg h2, w64 (1048576 - (cs.length : Int) - (fc.length : Int) - (st.length : Int)) (by omega) (by omega)]
      by_cases h3 : 1048576 - (cs.length : Int) - (fc.length : Int) - (st.length : Int) < 0
      · rw [if_pos h3, bind_some_, if_pos (by omega)]
        exact ⟨_, rfl, by omega, Or.inl (by omega)⟩
      · rw [if_neg h3, bind_some_, if_neg h3]
        exact ⟨_, rfl, by omega, Or.inr (by omega)⟩
end Go.Proofs.Ytagmaflnnaonjaa.P
/- A number lies in a range, as the reference asks it. -/
namespace Go.Proofs.Ytagmaflnnaonjaa.P
open Go.RowKit Go.Proofs.Ytagmaflnnaonjaa.P Go.Proofs.YtagmaflnnaonjaaW.PrintWords Go.Proofs.YtagmaflnnaonjaaW.PrintLast Go.Proofs.YtagmaflnnaonjaaW.PrintMore
set_option linter.unusedVariables false
set_option linter.unusedSimpArgs false
theorem in_is (a b c : Int) : spec_l00In.f a b c = some (decide (b ≤ a ∧ a ≤ c)) := by
  unfold spec_l00In.f
  by_cases h : b ≤ a <;> simp [h]

end Go.Proofs.Ytagmaflnnaonjaa.P
/- Numbers in a range that rise, as the reference asks it. -/
namespace Go.Proofs.Ytagmaflnnaonjaa.P
open Go.RowKit Go.Proofs.Ytagmaflnnaonjaa.P Go.Proofs.YtagmaflnnaonjaaW.PrintWords Go.Proofs.YtagmaflnnaonjaaW.PrintLast Go.Proofs.YtagmaflnnaonjaaW.PrintMore
set_option linter.unusedVariables false
set_option linter.unusedSimpArgs false
theorem specRises_loop (l : List Int) (lo hi : Int) (hb : l.length ≤ 9223372036854775806) : ∀ (d k i : Nat), i + d = l.length → d < k → spec_l00Rises.l0 k l lo hi i = some (upTo (riseOk l lo hi) d i) := by
  intro d
  induction d with
  | zero =>
    intro k i hi' hk
    obtain ⟨k, rfl⟩ : ∃ m, k = m + 1 := ⟨k - 1, by omega⟩
    simp only [spec_l00Rises.l0]
    rw [if_neg (by omega)]
    rfl
  | succ d ih =>
    intro k i hi' hk
    obtain ⟨k, rfl⟩ : ∃ m, k = m + 1 := ⟨k - 1, by omega⟩
    have hz := ih k (i + 1) (by omega) (by omega)
    simp only [spec_l00Rises.l0, in_is, bind_some_, upTo, riseOk]
    rw [if_pos (by omega), if_pos (by omega), w64s i (by omega), hz]
    by_cases h : i = 0
    · rw [if_neg (show ¬ (i : Int) > 0 by omega), ite_tt, decide_eq_true h, Bool.true_or, Bool.and_true]
    · have e : wrap64 ((i : Int) - 1) = ((i - 1 : Nat) : Int) := by rw [w64 _ (by omega) (by omega)]; omega
      rw [if_pos (show (i : Int) > 0 by omega), e, if_pos (show (0 : Int) ≤ ((i - 1 : Nat) : Int) by omega), if_pos (show ((i - 1 : Nat) : Int) < (l.length : Int) by omega), ite_ff, ite_tt, not_ge_dec, decide_eq_false h, Bool.false_or, Bool.and_assoc]
theorem specRises_is (k : Nat) (l : List Int) (lo hi : Int) (hb : l.length ≤ 9223372036854775806) (hk : l.length < k) : spec_l00Rises.f k l lo hi = some (rises l lo hi) := by
  unfold spec_l00Rises.f rises
  exact specRises_loop l lo hi hb l.length k 0 (by omega) hk

end Go.Proofs.Ytagmaflnnaonjaa.P
/- What the reference asks of a head. -/
namespace Go.Proofs.Ytagmaflnnaonjaa.P
open Go.RowKit Go.Proofs.Ytagmaflnnaonjaa.P Go.Proofs.YtagmaflnnaonjaaW.PrintWords Go.Proofs.YtagmaflnnaonjaaW.PrintLast Go.Proofs.YtagmaflnnaonjaaW.PrintMore
set_option linter.unusedVariables false
set_option linter.unusedSimpArgs false
theorem specHead_l1 (cs : List S154) (fc st : List Int) (x y : Int) (hb : fc.length ≤ 9223372036854775806) : ∀ (d k i : Nat), i + d = fc.length → d < k → spec_l08Is.l1 k i cs fc st x y = some (impl_areWithin.all 0 100 (fc.drop i) && (decide (0 ≤ x ∧ x ≤ 10000) && decide (0 ≤ y ∧ y ≤ 10000))) := by
  intro d
  induction d with
  | zero =>
    intro k i hi' hk
    obtain ⟨k, rfl⟩ : ∃ m, k = m + 1 := ⟨k - 1, by omega⟩
    simp only [spec_l08Is.l1, in_is, bind_some_]
    rw [if_neg (by omega), List.drop_of_length_le (by omega), ite_tt]
    rfl
  | succ d ih =>
    intro k i hi' hk
    obtain ⟨k, rfl⟩ : ∃ m, k = m + 1 := ⟨k - 1, by omega⟩
    have hz := ih k (i + 1) (by omega) (by omega)
    rw [drop_at fc i (by omega)]
    simp only [spec_l08Is.l1, in_is, bind_some_]
    rw [if_pos (by omega), if_pos (by omega), w64s i (by omega), hz, ite_tt]
    simp only [impl_areWithin.all, List.all_cons, Bool.and_assoc]
theorem specHead_l0 (cs : List S154) (fc st : List Int) (x y : Int) (hc : cs.length ≤ 9223372036854775806) (hb : fc.length ≤ 9223372036854775806) : ∀ (d k i : Nat), i + d = cs.length → d + fc.length + 1 < k → spec_l08Is.l0 k i cs fc st x y = some (upTo (cuOk cs) d i && (impl_areWithin.all 0 100 fc && (decide (0 ≤ x ∧ x ≤ 10000) && decide (0 ≤ y ∧ y ≤ 10000)))) := by
  intro d
  induction d with
  | zero =>
    intro k i hi' hk
    obtain ⟨k, rfl⟩ : ∃ m, k = m + 1 := ⟨k - 1, by omega⟩
    have h1 := specHead_l1 cs fc st x y hb fc.length k 0 (by omega) (by omega)
    rw [List.drop_zero] at h1
    simp only [spec_l08Is.l0]
    rw [if_neg (by omega)]
    exact h1
  | succ d ih =>
    intro k i hi' hk
    obtain ⟨k, rfl⟩ : ∃ m, k = m + 1 := ⟨k - 1, by omega⟩
    have hz := ih k (i + 1) (by omega) (by omega)
    simp only [spec_l08Is.l0, in_is, bind_some_]
    rw [if_pos (by omega), if_pos (by omega), w64s i (by omega), hz, ite_tt, ite_tt]
    simp only [upTo, cuOk, Bool.and_assoc]
theorem specIs_is (k : Nat) (cs : List S154) (fc st : List Int) (x y : Int) (hc : cs.length ≤ 1048576) (hb : fc.length ≤ 1048576) (hs : st.length ≤ 1048576) (hk : cs.length + fc.length + st.length + 3 < k) : spec_l08Is.f k cs fc st x y = some (hdOk cs fc st x y) := by
  obtain ⟨k, rfl⟩ : ∃ m, k = m + 1 := ⟨k - 1, by omega⟩
  have h0 := specHead_l0 cs fc st x y (by omega) (by omega) cs.length k 0 (by omega) (by omega)
  rw [show ((0 : Nat) : Int) = 0 by rfl] at h0
  unfold spec_l08Is.f hdOk
  rw [in_is, bind_some_, specRises_is (k + 1) st _ _ (by omega) (by omega), bind_some_]
  simp only [spec_l08Is.j0, h0, if_true]
  generalize upTo (cuOk cs) cs.length 0 = b1
  generalize impl_areWithin.all 0 100 fc = b2
  generalize rises st 0 (wrap64 ((fc.length : Int) - 1)) = b3
  by_cases h1 : (1 ≤ (cs.length : Int) ∧ (cs.length : Int) ≤ 5)
  · by_cases h2 : (fc.length : Int) > 60
    · rw [if_pos (decide_eq_true h1), if_pos h2, decide_eq_false (show ¬ (fc.length : Int) ≤ 60 by omega)]
      simp
    · rw [if_pos (decide_eq_true h1), if_neg h2, decide_eq_true (show (fc.length : Int) ≤ 60 by omega), decide_eq_true h1]
      by_cases h3 : (st.length : Int) > 8
      · rw [if_pos h3, decide_eq_false (show ¬ (st.length : Int) ≤ 8 by omega)]
        simp
      · rw [if_neg h3, decide_eq_true (show (st.length : Int) ≤ 8 by omega)]
        cases b3 <;> simp
  · rw [if_neg (by simpa using h1), decide_eq_false h1]
    simp

end Go.Proofs.Ytagmaflnnaonjaa.P
/- A number is in a list, as the reference asks it. -/
namespace Go.Proofs.Ytagmaflnnaonjaa.P
open Go.RowKit Go.Proofs.Ytagmaflnnaonjaa.P Go.Proofs.YtagmaflnnaonjaaW.PrintWords Go.Proofs.YtagmaflnnaonjaaW.PrintLast Go.Proofs.YtagmaflnnaonjaaW.PrintMore
set_option linter.unusedVariables false
set_option linter.unusedSimpArgs false
theorem specHas_loop (l : List Int) (n : Int) (hb : l.length ≤ 9223372036854775806) : ∀ (d k i : Nat), i + d = l.length → d < k → spec_l00Has.l0 k l n i = some (decide (n ∈ l.drop i)) := by
  intro d
  induction d with
  | zero =>
    intro k i hi hk
    obtain ⟨k, rfl⟩ : ∃ m, k = m + 1 := ⟨k - 1, by omega⟩
    simp only [spec_l00Has.l0]
    rw [if_neg (by omega), List.drop_of_length_le (by omega)]
    simp
  | succ d ih =>
    intro k i hi hk
    obtain ⟨k, rfl⟩ : ∃ m, k = m + 1 := ⟨k - 1, by omega⟩
    simp only [spec_l00Has.l0]
    rw [if_pos (by omega), if_pos (by omega), w64s i (by omega), ih k (i + 1) (by omega) (by omega), drop_at l i (by omega)]
    by_cases h : rd l i = n
    · rw [if_pos h]; simp [h]
    · rw [if_neg h]
      have h2 : ¬ n = rd l i := fun e => h e.symm
      simp [h2]
theorem specHas_is (k : Nat) (l : List Int) (n : Int) (hb : l.length ≤ 9223372036854775806) (hk : l.length < k) : spec_l00Has.f k l n = some (decide (n ∈ l)) := by
  unfold spec_l00Has.f
  have := specHas_loop l n hb l.length k 0 (by omega) hk
  simpa using this

end Go.Proofs.Ytagmaflnnaonjaa.P
/- What is asked of a plan, as the reference asks it. -/
namespace Go.Proofs.Ytagmaflnnaonjaa.P
open Go.RowKit Go.Proofs.Ytagmaflnnaonjaa.P Go.Proofs.YtagmaflnnaonjaaW.PrintWords Go.Proofs.YtagmaflnnaonjaaW.PrintLast Go.Proofs.YtagmaflnnaonjaaW.PrintMore
set_option linter.unusedVariables false
set_option linter.unusedSimpArgs false
theorem specPlan_l0 (cs : List S154) (fc st : List Int) (x y : Int) (p : List S106) (hc : cs.length ≤ 1048576) (hs : st.length ≤ 1048576) (hp : shortS p) : ∀ (d k i : Nat), i + d = p.length → d + 1048577 < k → spec_l08Plan.l0 k p i cs fc st x y = some (upTo (stopOk cs.length st p) d i) := by
  intro d
  have hb := hp.1
  induction d with
  | zero =>
    intro k i hi hk
    obtain ⟨k, rfl⟩ : ∃ m, k = m + 1 := ⟨k - 1, by omega⟩
    simp only [spec_l08Plan.l0]
    rw [if_neg (by omega)]
    rfl
  | succ d ih =>
    intro k i hi hk
    obtain ⟨k, rfl⟩ : ∃ m, k = m + 1 := ⟨k - 1, by omega⟩
    have hz := ih k (i + 1) (by omega) (by omega)
    have h1 := shortS_at hp i (by omega)
    have hrest := ite_tc (decide ((rd_T106 p (i : Int)).f0 ∈ st)) _ _ (ite_fc (((rd_T106 p (i : Int)).f1.length : Int) = 0) _ _ (ite_tc (rises (rd_T106 p (i : Int)).f1 0 (wrap64 ((cs.length : Int) - 1))) _ _ hz))
    simp only [spec_l08Plan.l0]
    rw [if_pos (by omega), specHas_is k st _ (by omega) (by omega), specRises_is k _ _ _ (by omega) (by omega)]
    simp only [bind_some_]
    rw [w64s i (by omega), if_pos (show (0 : Int) ≤ (i : Int) by omega)]
    by_cases h : i = 0
    · rw [if_neg (show ¬ (i : Int) > 0 by omega), if_pos (show (0 : Int) ≤ (i : Int) by omega), hrest]
      simp only [upTo, stopOk]
      simp [h, Bool.and_assoc]
    · have e : wrap64 ((i : Int) - 1) = ((i - 1 : Nat) : Int) := by rw [w64 _ (by omega) (by omega)]; omega
      rw [if_pos (show (i : Int) > 0 by omega), e, if_pos (show (0 : Int) ≤ ((i - 1 : Nat) : Int) by omega), if_pos (show ((i - 1 : Nat) : Int) < (p.length : Int) by omega), ite_fc _ _ _ hrest, not_ge_dec]
      simp only [upTo, stopOk]
      rw [decide_eq_false h, Bool.false_or]
      cases decide ((rd_T106 p ((i - 1 : Nat) : Int)).f0 < (rd_T106 p (i : Int)).f0) <;> simp [Bool.and_assoc]
theorem specPlan_is (k : Nat) (cs : List S154) (fc st : List Int) (x y : Int) (p : List S106) (hc : cs.length ≤ 1048576) (hs : st.length ≤ 1048576) (hp : shortS p) (hk : p.length + 1048577 < k) : spec_l08Plan.f k cs fc st x y p = some (planOk cs.length st p) := by
  unfold spec_l08Plan.f planOk
  exact specPlan_l0 cs fc st x y p hc hs hp p.length k 0 (by omega) hk

end Go.Proofs.Ytagmaflnnaonjaa.P
/- How worn the cutters are, as the reference reckons it. -/
namespace Go.Proofs.Ytagmaflnnaonjaa.P
open Go.RowKit Go.Proofs.Ytagmaflnnaonjaa.P Go.Proofs.YtagmaflnnaonjaaW.PrintWords Go.Proofs.YtagmaflnnaonjaaW.PrintLast Go.Proofs.YtagmaflnnaonjaaW.PrintMore
set_option linter.unusedVariables false
set_option linter.unusedSimpArgs false
theorem specChanges_l0 (p : List S106) (c n : Int) (hp : shortS p) : ∀ (d k i : Nat), i + d = p.length → d + 1048577 < k → spec_l08Changes.l0 k p c n i = some (chg (p.drop i) c n) := by
  intro d
  have hb := hp.1
  induction d with
  | zero =>
    intro k i hi hk
    obtain ⟨k, rfl⟩ : ∃ m, k = m + 1 := ⟨k - 1, by omega⟩
    simp only [spec_l08Changes.l0]
    rw [if_neg (by omega), List.drop_of_length_le (by omega)]
    rfl
  | succ d ih =>
    intro k i hi hk
    obtain ⟨k, rfl⟩ : ∃ m, k = m + 1 := ⟨k - 1, by omega⟩
    have hlt : i < p.length := by omega
    have hs := shortS_at hp i hlt
    have hd : p.drop i = rd_T106 p (i : Int) :: p.drop (i + 1) := by rw [rdStop_at p i hlt, List.drop_eq_getElem_cons hlt]
    have hz := ih k (i + 1) (by omega) (by omega)
    simp only [spec_l08Changes.l0]
    rw [if_pos (by omega), if_pos (by omega), specHas_is k _ _ (by omega) (by omega), bind_some_, w64s i (by omega), hz, hd]
    simp only [chg, List.any_cons]
    by_cases h1 : (rd_T106 p (i : Int)).f0 = n
    · rw [if_pos h1]
      by_cases h2 : c ∈ (rd_T106 p (i : Int)).f1
      · simp [h1, h2]
      · simp [h2]
    · rw [if_neg h1]
      simp [h1]
theorem specChanges_is (k : Nat) (p : List S106) (c n : Int) (hp : shortS p) (hk : p.length + 1048577 < k) : spec_l08Changes.f k p c n = some (chg p c n) := by
  unfold spec_l08Changes.f
  have := specChanges_l0 p c n hp p.length k 0 (by omega) hk
  simpa using this
theorem specWorn_l0 (cs : List S154) (fc st : List Int) (x y : Int) (hh : hdOk cs fc st x y = true) (p : List S106) (hp : shortS p) (c R : Nat) (hc : c < cs.length) (hR : R ≤ fc.length) : ∀ (e k n : Nat), n + e = R → e + 3000000 < k → spec_l08Worn.l0 k p c R (wearIn cs fc p c n) n cs fc st x y = some (wearP cs fc p c R) := by
  intro e
  have hin := hdOk_in hh
  have hb := hp.1
  induction e with
  | zero =>
    intro k n hn hk
    have hn2 : n = R := by omega
    subst hn2
    obtain ⟨k, rfl⟩ : ∃ m, k = m + 1 + 1 := ⟨k - 2, by omega⟩
    simp only [spec_l08Worn.l0]
    rw [if_pos (Int.le_refl _), specChanges_is _ p _ _ hp (by omega), bind_some_, w64s n (by omega), wearP_eq]
    have h1 : ¬ ((n + 1 : Nat) : Int) ≤ (n : Int) := by omega
    simp only [if_neg h1, if_neg (show ¬ (n : Int) < (n : Int) by omega)]
    split <;> rfl
  | succ e ih =>
    intro k n hn hk
    obtain ⟨k, rfl⟩ : ∃ m, k = m + 1 := ⟨k - 1, by omega⟩
    have b1 := wearP_in p hh c hc n (by omega)
    have b2 := step_in hh c n hc (by omega)
    have e1 : wrap64 ((rd_T154 cs (c : Int)).f0 * rd fc (n : Int)) = wearStep cs fc c n := by
      unfold wearStep at b2 ⊢
      rw [w64 _ (by omega) (by omega)]
    have hz := ih k (n + 1) (by omega) (by omega)
    have e2 : wearIn cs fc p c (n + 1) = wearP cs fc p c n + wearStep cs fc c n := rfl
    rw [e2] at hz
    have e3 := wearP_eq cs fc p c n
    simp only [spec_l08Worn.l0]
    rw [if_pos (by omega), specChanges_is _ p _ _ hp (by omega), bind_some_, w64s n (by omega), e1]
    by_cases h : chg p c (n : Int) = true
    · rw [if_pos h] at e3
      rw [if_pos h, if_pos (by omega), if_pos (by omega), if_pos (by omega), if_pos (by omega), if_pos (by omega), w64 (0 + wearStep cs fc c n) (by omega) (by omega)]
      rw [e3] at hz
      exact hz
    · rw [if_neg h] at e3
      rw [if_neg h, if_pos (by omega), if_pos (by omega), if_pos (by omega), if_pos (by omega), if_pos (by omega), ← e3, w64 (wearP cs fc p c n + wearStep cs fc c n) (by omega) (by omega)]
      exact hz
theorem specWorn_is (k : Nat) (cs : List S154) (fc st : List Int) (x y : Int) (hh : hdOk cs fc st x y = true) (p : List S106) (hp : shortS p) (c R : Nat) (hc : c < cs.length) (hR : R ≤ fc.length) (hk : 4000000 ≤ k) : spec_l08Worn.f k cs fc st x y p c R = some (wearP cs fc p c R) := by
  have hin := hdOk_in hh
  unfold spec_l08Worn.f
  exact specWorn_l0 cs fc st x y hh p hp c R hc hR R k 0 (by omega) (by omega)
theorem specFail_l1 (cs : List S154) (fc st : List Int) (x y : Int) (hh : hdOk cs fc st x y = true) (p : List S106) (hp : shortS p) (n : Nat) (hn : n < fc.length) (out : Option (Int × Int × Bool)) (B : Nat) (hB : 5000000 ≤ B)
    (hcont : failC cs fc p n cs.length 0 = none → ∀ k, B ≤ k → spec_l08Failure.l0 k p ((n + 1 : Nat) : Int) cs fc st x y = out) (hfound : ∀ c, failC cs fc p n cs.length 0 = some c → out = some ((c : Int), (n : Int), true)) : ∀ (d k j : Nat), j + d = cs.length → B + d < k → failC cs fc p n d j = failC cs fc p n cs.length 0 → spec_l08Failure.l1 k p n j cs fc st x y = out := by
  intro d
  have hin := hdOk_in hh
  induction d with
  | zero =>
    intro k j hj hk he
    obtain ⟨k, rfl⟩ : ∃ m, k = m + 1 := ⟨k - 1, by omega⟩
    simp only [spec_l08Failure.l1]
    rw [if_neg (by omega), w64s n (by omega)]
    exact hcont (by rw [← he]; rfl) k (by omega)
  | succ d ih =>
    intro k j hj hk he
    obtain ⟨k, rfl⟩ : ∃ m, k = m + 1 := ⟨k - 1, by omega⟩
    have h1 := wearP_in p hh j (by omega) n (by omega)
    have h2 := step_in hh j n (by omega) hn
    have e1 : wrap64 ((rd_T154 cs (j : Int)).f0 * rd fc (n : Int)) = wearStep cs fc j n := by
      unfold wearStep at h2 ⊢
      rw [w64 _ (by omega) (by omega)]
    simp only [spec_l08Failure.l1]
    rw [if_pos (by omega), specWorn_is k cs fc st x y hh p hp j n (by omega) (by omega) (by omega), bind_some_, if_pos (by omega), if_pos (by omega), if_pos (by omega), e1, w64 (wearP cs fc p j n + wearStep cs fc j n) (by omega) (by omega), w64s j (by omega)]
    simp only [failC] at he
    by_cases h3 : wearP cs fc p j n + wearStep cs fc j n > (rd_T154 cs (j : Int)).f1
    · rw [if_pos h3] at he ⊢
      exact (hfound j he.symm).symm
    · rw [if_neg h3] at he ⊢
      exact ih k (j + 1) (by omega) (by omega) he
theorem specFail_l0 (cs : List S154) (fc st : List Int) (x y : Int) (hh : hdOk cs fc st x y = true) (p : List S106) (hp : shortS p) : ∀ (d k n : Nat), n + d = fc.length → 5000000 + 100 * d < k → spec_l08Failure.l0 k p n cs fc st x y = some (match failN cs fc p d n with | some (c, n) => ((c : Int), (n : Int), true) | none => (0, 0, false)) := by
  intro d
  have hin := hdOk_in hh
  induction d with
  | zero =>
    intro k n hn hk
    obtain ⟨k, rfl⟩ : ∃ m, k = m + 1 := ⟨k - 1, by omega⟩
    simp only [spec_l08Failure.l0, failN]
    rw [if_neg (by omega)]
  | succ d ih =>
    intro k n hn hk
    obtain ⟨k, rfl⟩ : ∃ m, k = m + 1 := ⟨k - 1, by omega⟩
    simp only [spec_l08Failure.l0, failN]
    rw [if_pos (by omega)]
    refine specFail_l1 cs fc st x y hh p hp n (by omega) _ (5000000 + 100 * d + 1) (by omega) ?_ ?_ cs.length k 0 (by omega) (by omega) rfl
    · intro h1 k2 hk2
      rw [h1]
      exact ih k2 (n + 1) (by omega) (by omega)
    · intro c hc
      rw [hc]
theorem specFail_is (k : Nat) (cs : List S154) (fc st : List Int) (x y : Int) (hh : hdOk cs fc st x y = true) (p : List S106) (hp : shortS p) (hk : 6000000 ≤ k) : spec_l08Failure.f k cs fc st x y p = some (match failP cs fc p with | some (c, n) => ((c : Int), (n : Int), true) | none => (0, 0, false)) := by
  have hin := hdOk_in hh
  unfold spec_l08Failure.f failP
  exact specFail_l0 cs fc st x y hh p hp fc.length k 0 (by omega) (by omega)

end Go.Proofs.Ytagmaflnnaonjaa.P
/- The first failure, as the reference answers. -/
namespace Go.Proofs.Ytagmaflnnaonjaa.P
open Go.RowKit Go.Proofs.Ytagmaflnnaonjaa.P Go.Proofs.YtagmaflnnaonjaaW.PrintWords Go.Proofs.YtagmaflnnaonjaaW.PrintLast Go.Proofs.YtagmaflnnaonjaaW.PrintMore
set_option linter.unusedVariables false
set_option linter.unusedSimpArgs false
theorem specFirstFailure_is (k : Nat) (cs : List S154) (fc st : List Int) (x y : Int) (p : List S106) (hc : cs.length ≤ 1048576) (hb : fc.length ≤ 1048576) (hs : st.length ≤ 1048576) (hp : shortS p) (hk : 10000000 ≤ k) : spec_FirstFailure.f k cs fc st x y p = some (firstFailP cs fc st x y p) := by
  have := hp.1
  unfold spec_FirstFailure.f firstFailP planFine
  rw [specIs_is k cs fc st x y hc hb hs (by omega), bind_some_, specPlan_is k cs fc st x y p hc hs hp (by omega), bind_some_]
  by_cases h : hdOk cs fc st x y = true
  · rw [if_pos h, specFail_is k cs fc st x y h p hp (by omega), bind_some_, h]
    cases planOk cs.length st p <;> rfl
  · rw [if_neg h, if_neg (by simp [h])]

end Go.Proofs.Ytagmaflnnaonjaa.P
