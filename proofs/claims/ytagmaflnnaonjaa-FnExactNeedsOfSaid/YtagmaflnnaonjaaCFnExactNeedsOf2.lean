/- What the claim of FnExactNeedsOf bears, part 2: functions of the program as plain Lean functions, with proofs that the code comes to their answers, and lemmas on them. -/
import Derived.Test.YtagmaflnnaonjaaCFnExactNeedsOf0
import Derived.Test.YtagmaflnnaonjaaCFnExactNeedsOf1
namespace Go.Proofs.Ytagmaflnnaonjaa.P
open Go.RowKit Go.Proofs.YtagmaflnnaonjaaW.PrintWords Go.Proofs.YtagmaflnnaonjaaW.PrintLast Go.Proofs.YtagmaflnnaonjaaW.PrintMore
attribute [local go_sem] max2_int min2_int max_two min_two max_three min_three max_four min_four   -- for this text's walks alone
set_option linter.unusedVariables false
set_option linter.unusedSimpArgs false

def impl_NeedsOf.f (k : Nat) (l0_0 : List (S154)) (l0_1 : List Int) (l0_2 : List Int) (a0_3 : Int) (a0_4 : Int) (a1 : Int) : Option ((List (List Int)) × Bool) := (impl_ValidHead.f k l0_0 l0_1 l0_2 a0_3 a0_4).bind fun t326 => (if t326 = true then ((impl_within.f a1 0 (wrap64 ((l0_0.length : Int) - 1))).bind fun t327 => (if t327 = true then ((impl_Head_needs.f k l0_0 l0_1 l0_2 a0_3 a0_4 a1).bind fun bt328 => (some (bt328.1, bt328.2))) else (some (([] : List (List Int)), false)))) else (some (([] : List (List Int)), false)))
set_option maxHeartbeats 8000000 in
set_option maxRecDepth 100000 in
theorem impl_NeedsOf.calls (k : Nat) (A0_0 : Option Addr) (c0_0 : Nat) (l0_0 : List (S154)) (A0_1 : Option Addr) (c0_1 : Nat) (l0_1 : List Int) (A0_2 : Option Addr) (c0_2 : Nat) (l0_2 : List Int) (a0_3 : Int) (a0_4 : Int) (a1 : Int) (r1 : List (List Int)) (r2 : Bool) (w : World) (hr0_0 : Kd.C k154 w A0_0 l0_0.length l0_0) (hc0_0 : l0_0.length ≤ c0_0) (hr0_1 : Kd.C (Kd.int .i64) w A0_1 l0_1.length l0_1) (hc0_1 : l0_1.length ≤ c0_1) (hr0_2 : Kd.C (Kd.int .i64) w A0_2 l0_2.length l0_2) (hc0_2 : l0_2.length ≤ c0_2) (h : impl_NeedsOf.f k l0_0 l0_1 l0_2 a0_3 a0_4 a1 = some (r1, r2)) :
  Calls Try.prog 22 #[.agg #[.slice A0_0 l0_0.length c0_0, .slice A0_1 l0_1.length c0_1, .slice A0_2 l0_2.length c0_2, .int .i64 a0_3, .int .i64 a0_4], .int .i64 a1] w fun e w' => ∃ v0_ : Value, e = .returned (.tuple #[v0_, .bool r2]) ∧ Kd.S (Kd.slice 2 (Kd.int .i64)) 23 w' w.heap.size (fun _ => True) v0_ r1 ∧ Below w.heap.size w w' := by
 have hu33 := Try.underlying33
 have HR0_0 := Aside0.mk hr0_0
 have HC0_0 := Aside0.mk hc0_0
 clear hr0_0 hc0_0
 have HR0_1 := Aside0.mk hr0_1
 have HC0_1 := Aside0.mk hc0_1
 clear hr0_1 hc0_1
 have HR0_2 := Aside0.mk hr0_2
 have HC0_2 := Aside0.mk hc0_2
 clear hr0_2 hc0_2
 have HB := Aside0.mk (Below.refl w.heap.size w)
 have H : ((impl_ValidHead.f k l0_0 l0_1 l0_2 a0_3 a0_4).bind fun t326 => (if t326 = true then ((impl_within.f a1 0 (wrap64 ((l0_0.length : Int) - 1))).bind fun t327 => (if t327 = true then ((impl_Head_needs.f k l0_0 l0_1 l0_2 a0_3 a0_4 a1).bind fun bt328 => (some (bt328.1, bt328.2))) else (some (([] : List (List Int)), false)))) else (some (([] : List (List Int)), false)))) = some (r1, r2) := h
 clear h
 replace H := Option.bind_eq_some_iff.mp H
 obtain ⟨t326, A30, H⟩ := H
 replace H : (if t326 = true then ((impl_within.f a1 0 (wrap64 ((l0_0.length : Int) - 1))).bind fun t327 => (if t327 = true then ((impl_Head_needs.f k l0_0 l0_1 l0_2 a0_3 a0_4 a1).bind fun bt328 => (some (bt328.1, bt328.2))) else (some (([] : List (List Int)), false)))) else (some (([] : List (List Int)), false))) = some (r1, r2) := H
 have A3 := Aside0.mk A30
 clear A30
 by_cases c4 : t326 = true
 ·subst c4
  have H1 : ((impl_within.f a1 0 (wrap64 ((l0_0.length : Int) - 1))).bind fun t327 => (if t327 = true then ((impl_Head_needs.f k l0_0 l0_1 l0_2 a0_3 a0_4 a1).bind fun bt328 => (some (bt328.1, bt328.2))) else (some (([] : List (List Int)), false)))) = some (r1, r2) := by rw [if_pos rfl] at H; exact H
  clear H
  have H := H1
  clear H1
  replace H := Option.bind_eq_some_iff.mp H
  obtain ⟨t327, A50, H⟩ := H
  replace H : (if t327 = true then ((impl_Head_needs.f k l0_0 l0_1 l0_2 a0_3 a0_4 a1).bind fun bt328 => (some (bt328.1, bt328.2))) else (some (([] : List (List Int)), false))) = some (r1, r2) := H
  have A5 := Aside0.mk A50
  clear A50
  by_cases c6 : t327 = true
  ·subst c6
   have H1 : ((impl_Head_needs.f k l0_0 l0_1 l0_2 a0_3 a0_4 a1).bind fun bt328 => (some (bt328.1, bt328.2))) = some (r1, r2) := by rw [if_pos rfl] at H; exact H
   clear H
   have H := H1
   clear H1
   replace H := Option.bind_eq_some_iff.mp H
   obtain ⟨⟨t328, t331⟩, A70, H⟩ := H
   replace H : (some (t328, t331)) = some (r1, r2) := H
   have A7 := Aside0.mk A70
   clear A70
   simp only [Option.some.injEq, Prod.mk.injEq] at H
   obtain ⟨rfl, rfl⟩ := H
   go_enter Try.func22, Try.ntmps22
   go_wp2_with (first | ((with_reducible refine gate_dst (N := 2) rfl ?_); (try (refine gate_guard (by rfl) ?_; dsimp only)); refine box_event ?hg (N := 2) ?hd (cs := #[.slice A0_0 l0_0.length c0_0, .slice A0_1 l0_1.length c0_1, .slice A0_2 l0_2.length c0_2, .int .i64 a0_3, .int .i64 a0_4]) (t := 33) ?hr ?_; (case hd => rfl); (case hg => rfl); (case hr => first | (go_simp; done) | (go_simp; rfl)); intro gb325 hg w8 hbox hb; have n0_ := Aside0.mk (below_step (by repeat (first | (with_reducible first | exact HB.out | apply below_alloc | apply pw_below_drewN | apply below_drew1) | exact HB.out)) hb); have n1_ := Aside0.mk (hbox); have n2_ := Aside0.mk ((by rw [hg]; exact (below_size (by repeat (first | (with_reducible first | exact HB.out | apply below_alloc | apply pw_below_drewN | apply below_drew1) | exact HB.out))) : w.heap.size ≤ gb325)); have n3_ := Aside0.mk ((by rw [hg]; exact (below_size (by repeat (first | (with_reducible first | exact HB.out | apply below_alloc | apply pw_below_drewN | apply below_drew1) | exact HB.out))) : w.heap.size ≤ gb325)); clear HB; have HB := n0_; have BK325 := n1_; have GW325 := n2_; have GE325 := n3_; clear n0_ n1_ n2_ n3_; clear hb hbox hg; have hcz9_0 : w8.cell? ⟨gb325, 0, none⟩ = some (.slice A0_0 l0_0.length c0_0) := (blk_cell BK325.out 0).trans rfl; have hcz9_1 : w8.cell? ⟨gb325, 1, none⟩ = some (.slice A0_1 l0_1.length c0_1) := (blk_cell BK325.out 1).trans rfl; have hcz9_2 : w8.cell? ⟨gb325, 2, none⟩ = some (.slice A0_2 l0_2.length c0_2) := (blk_cell BK325.out 2).trans rfl; have hcz9_3 : w8.cell? ⟨gb325, 3, none⟩ = some (.int .i64 a0_3) := (blk_cell BK325.out 3).trans rfl; have hcz9_4 : w8.cell? ⟨gb325, 4, none⟩ = some (.int .i64 a0_4) := (blk_cell BK325.out 4).trans rfl; have hfz9_0 := blk_frozen BK325.out 0; have hfz9_1 := blk_frozen BK325.out 1; have hfz9_2 := blk_frozen BK325.out 2; have hfz9_3 := blk_frozen BK325.out 3; have hfz9_4 := blk_frozen BK325.out 4) | ((with_reducible refine gate_callee (f := 80) rfl ?_); refine goesL_ (some 7) rfl rfl Try.func80 (by kernel_rfl) rfl #[.agg #[.slice A0_0 l0_0.length c0_0, .slice A0_1 l0_1.length c0_1, .slice A0_2 l0_2.length c0_2, .int .i64 a0_3, .int .i64 a0_4]] rfl (by (try simp only [List.map_toArray, List.map_cons, List.map_nil]); first | done | rfl | (simp only [List.length_drop, List.length_take]; rfl)) ?_; (with_reducible refine (impl_ValidHead.calls k _ _ l0_0 _ _ l0_1 _ _ l0_2 a0_3 a0_4 true _ ?side1 ?side2 ?side3 ?side4 ?side5 ?side6 A3.out).mono ?_); (case side1 => repeat (first | exact (Kd.C_below HR0_0.out HB.out) | (with_reducible refine Kd.C_alloc ?_ _) | (with_reducible refine Kd.C_drewN ?_ _) | (with_reducible refine Kd.C_drew ?_))); (case side2 => exact HC0_0.out); (case side3 => repeat (first | exact (Kd.C_below HR0_1.out HB.out) | (with_reducible refine Kd.C_alloc ?_ _) | (with_reducible refine Kd.C_drewN ?_ _) | (with_reducible refine Kd.C_drew ?_))); (case side4 => exact HC0_1.out); (case side5 => repeat (first | exact (Kd.C_below HR0_2.out HB.out) | (with_reducible refine Kd.C_alloc ?_ _) | (with_reducible refine Kd.C_drewN ?_ _) | (with_reducible refine Kd.C_drew ?_))); (case side6 => exact HC0_2.out); rintro e w10 ⟨rfl, hb⟩; refine ⟨_, rfl, ?_⟩; have n0_ := Aside0.mk (blk_below (g := gb325) (o := .cells #[.slice A0_0 l0_0.length c0_0, .slice A0_1 l0_1.length c0_1, .slice A0_2 l0_2.length c0_2, .int .i64 a0_3, .int .i64 a0_4] 33 (0, 0)) (by (with_reducible repeat (first | refine blk_drewN ?_ _ | refine blk_drew ?_ | refine blk_alloc ?_ _)); exact BK325.out) hb); have n1_ := Aside0.mk (below_step (by repeat (first | (with_reducible first | exact HB.out | apply below_alloc | apply pw_below_drewN | apply below_drew1 | refine below_set ?_ GE325.out) | exact HB.out)) hb); clear BK325; clear HB; have BK325 := n0_; have HB := n1_; clear n0_ n1_; (try clear hb); (try clear hb2); (try clear hk); (try clear hi); have hcz11_0 : w10.cell? ⟨gb325, 0, none⟩ = some (.slice A0_0 l0_0.length c0_0) := (blk_cell BK325.out 0).trans rfl; have hcz11_1 : w10.cell? ⟨gb325, 1, none⟩ = some (.slice A0_1 l0_1.length c0_1) := (blk_cell BK325.out 1).trans rfl; have hcz11_2 : w10.cell? ⟨gb325, 2, none⟩ = some (.slice A0_2 l0_2.length c0_2) := (blk_cell BK325.out 2).trans rfl; have hcz11_3 : w10.cell? ⟨gb325, 3, none⟩ = some (.int .i64 a0_3) := (blk_cell BK325.out 3).trans rfl; have hcz11_4 : w10.cell? ⟨gb325, 4, none⟩ = some (.int .i64 a0_4) := (blk_cell BK325.out 4).trans rfl; have hfz11_0 := blk_frozen BK325.out 0; have hfz11_1 := blk_frozen BK325.out 1; have hfz11_2 := blk_frozen BK325.out 2; have hfz11_3 := blk_frozen BK325.out 3; have hfz11_4 := blk_frozen BK325.out 4) | (go_at_call 81; (with_reducible refine (impl_within.calls a1 0 (wrap64 ((l0_0.length : Int) - 1)) true _ A5.out).mono ?_); rintro e w' ⟨rfl, ⟨nd, rfl⟩⟩) | ((with_reducible refine gate_callee (f := 82) rfl ?_); refine goesL_ (some 20) rfl rfl Try.func82 (by kernel_rfl) rfl #[.agg #[.slice A0_0 l0_0.length c0_0, .slice A0_1 l0_1.length c0_1, .slice A0_2 l0_2.length c0_2, .int .i64 a0_3, .int .i64 a0_4], .int .i64 a1] rfl (by (try simp only [List.map_toArray, List.map_cons, List.map_nil]); first | done | rfl | (simp only [List.length_drop, List.length_take]; rfl)) ?_; (with_reducible refine (impl_Head_needs.calls k _ _ l0_0 _ _ l0_1 _ _ l0_2 a0_3 a0_4 a1 t328 t331 _ ?side1 ?side2 ?side3 ?side4 ?side5 ?side6 A7.out).mono ?_); (case side1 => repeat (first | exact (Kd.C_below HR0_0.out (by repeat (first | (with_reducible first | exact HB.out | apply below_alloc | apply pw_below_drewN | apply below_drew1 | refine below_set ?_ GE325.out) | exact HB.out))) | (with_reducible refine Kd.C_alloc ?_ _) | (with_reducible refine Kd.C_drewN ?_ _) | (with_reducible refine Kd.C_drew ?_))); (case side2 => exact HC0_0.out); (case side3 => repeat (first | exact (Kd.C_below HR0_1.out (by repeat (first | (with_reducible first | exact HB.out | apply below_alloc | apply pw_below_drewN | apply below_drew1 | refine below_set ?_ GE325.out) | exact HB.out))) | (with_reducible refine Kd.C_alloc ?_ _) | (with_reducible refine Kd.C_drewN ?_ _) | (with_reducible refine Kd.C_drew ?_))); (case side4 => exact HC0_1.out); (case side5 => repeat (first | exact (Kd.C_below HR0_2.out (by repeat (first | (with_reducible first | exact HB.out | apply below_alloc | apply pw_below_drewN | apply below_drew1 | refine below_set ?_ GE325.out) | exact HB.out))) | (with_reducible refine Kd.C_alloc ?_ _) | (with_reducible refine Kd.C_drewN ?_ _) | (with_reducible refine Kd.C_drew ?_))); (case side6 => exact HC0_2.out); rintro e w12 ⟨v329, rfl, ho0, hb⟩; refine ⟨_, rfl, ?_⟩; have n0_ := Aside0.mk (Kd.S_lower ho0 (below_size (by repeat (first | (with_reducible first | exact HB.out | apply below_alloc | apply pw_below_drewN | apply below_drew1 | refine below_set ?_ GE325.out) | exact HB.out)))); have n1_ := Aside0.mk (blk_below (g := gb325) (o := .cells #[.slice A0_0 l0_0.length c0_0, .slice A0_1 l0_1.length c0_1, .slice A0_2 l0_2.length c0_2, .int .i64 a0_3, .int .i64 a0_4] 33 (0, 0)) (by (with_reducible repeat (first | refine blk_drewN ?_ _ | refine blk_drew ?_ | refine blk_alloc ?_ _)); exact BK325.out) hb); have n2_ := Aside0.mk (below_step (by repeat (first | (with_reducible first | exact HB.out | apply below_alloc | apply pw_below_drewN | apply below_drew1 | refine below_set ?_ GE325.out) | exact HB.out)) hb); clear BK325; clear HB; have HO330 := n0_; have BK325 := n1_; have HB := n2_; clear n0_ n1_ n2_; (try clear hb); (try clear hb2); (try clear hk); (try clear hi); (try clear ho0)))
   go_ret2
   exact ⟨_, by first | rfl | (simp [errW_none, errW_some] <;> rfl) | (simp [*, errW_none, errW_some] <;> rfl) | (simp [Int.tdiv_eq_ediv_of_nonneg, *]; done), by (with_reducible repeat (first | apply Kd.S_alloc | apply Kd.S_drewN | apply Kd.S_drew)); exact HO330.out, by repeat (first | (with_reducible first | exact HB.out | apply below_alloc | apply pw_below_drewN | apply below_drew1 | refine below_set ?_ GE325.out) | exact HB.out)⟩
  ·replace c6 := Bool.eq_false_iff.mpr c6
   subst c6
   have H1 : (some (([] : List (List Int)), false)) = some (r1, r2) := by rw [if_neg (show ¬ (false = true) by decide)] at H; exact H
   clear H
   have H := H1
   clear H1
   simp only [Option.some.injEq, Prod.mk.injEq] at H
   obtain ⟨rfl, rfl⟩ := H
   go_enter Try.func22, Try.ntmps22
   go_wp2_with (first | ((with_reducible refine gate_dst (N := 2) rfl ?_); (try (refine gate_guard (by rfl) ?_; dsimp only)); refine box_event ?hg (N := 2) ?hd (cs := #[.slice A0_0 l0_0.length c0_0, .slice A0_1 l0_1.length c0_1, .slice A0_2 l0_2.length c0_2, .int .i64 a0_3, .int .i64 a0_4]) (t := 33) ?hr ?_; (case hd => rfl); (case hg => rfl); (case hr => first | (go_simp; done) | (go_simp; rfl)); intro gb325 hg w13 hbox hb; have n0_ := Aside0.mk (below_step (by repeat (first | (with_reducible first | exact HB.out | apply below_alloc | apply pw_below_drewN | apply below_drew1) | exact HB.out)) hb); have n1_ := Aside0.mk (hbox); have n2_ := Aside0.mk ((by rw [hg]; exact (below_size (by repeat (first | (with_reducible first | exact HB.out | apply below_alloc | apply pw_below_drewN | apply below_drew1) | exact HB.out))) : w.heap.size ≤ gb325)); have n3_ := Aside0.mk ((by rw [hg]; exact (below_size (by repeat (first | (with_reducible first | exact HB.out | apply below_alloc | apply pw_below_drewN | apply below_drew1) | exact HB.out))) : w.heap.size ≤ gb325)); clear HB; have HB := n0_; have BK325 := n1_; have GW325 := n2_; have GE325 := n3_; clear n0_ n1_ n2_ n3_; clear hb hbox hg; have hcz14_0 : w13.cell? ⟨gb325, 0, none⟩ = some (.slice A0_0 l0_0.length c0_0) := (blk_cell BK325.out 0).trans rfl; have hcz14_1 : w13.cell? ⟨gb325, 1, none⟩ = some (.slice A0_1 l0_1.length c0_1) := (blk_cell BK325.out 1).trans rfl; have hcz14_2 : w13.cell? ⟨gb325, 2, none⟩ = some (.slice A0_2 l0_2.length c0_2) := (blk_cell BK325.out 2).trans rfl; have hcz14_3 : w13.cell? ⟨gb325, 3, none⟩ = some (.int .i64 a0_3) := (blk_cell BK325.out 3).trans rfl; have hcz14_4 : w13.cell? ⟨gb325, 4, none⟩ = some (.int .i64 a0_4) := (blk_cell BK325.out 4).trans rfl; have hfz14_0 := blk_frozen BK325.out 0; have hfz14_1 := blk_frozen BK325.out 1; have hfz14_2 := blk_frozen BK325.out 2; have hfz14_3 := blk_frozen BK325.out 3; have hfz14_4 := blk_frozen BK325.out 4) | ((with_reducible refine gate_callee (f := 80) rfl ?_); refine goesL_ (some 7) rfl rfl Try.func80 (by kernel_rfl) rfl #[.agg #[.slice A0_0 l0_0.length c0_0, .slice A0_1 l0_1.length c0_1, .slice A0_2 l0_2.length c0_2, .int .i64 a0_3, .int .i64 a0_4]] rfl (by (try simp only [List.map_toArray, List.map_cons, List.map_nil]); first | done | rfl | (simp only [List.length_drop, List.length_take]; rfl)) ?_; (with_reducible refine (impl_ValidHead.calls k _ _ l0_0 _ _ l0_1 _ _ l0_2 a0_3 a0_4 true _ ?side1 ?side2 ?side3 ?side4 ?side5 ?side6 A3.out).mono ?_); (case side1 => repeat (first | exact (Kd.C_below HR0_0.out HB.out) | (with_reducible refine Kd.C_alloc ?_ _) | (with_reducible refine Kd.C_drewN ?_ _) | (with_reducible refine Kd.C_drew ?_))); (case side2 => exact HC0_0.out); (case side3 => repeat (first | exact (Kd.C_below HR0_1.out HB.out) | (with_reducible refine Kd.C_alloc ?_ _) | (with_reducible refine Kd.C_drewN ?_ _) | (with_reducible refine Kd.C_drew ?_))); (case side4 => exact HC0_1.out); (case side5 => repeat (first | exact (Kd.C_below HR0_2.out HB.out) | (with_reducible refine Kd.C_alloc ?_ _) | (with_reducible refine Kd.C_drewN ?_ _) | (with_reducible refine Kd.C_drew ?_))); (case side6 => exact HC0_2.out); rintro e w15 ⟨rfl, hb⟩; refine ⟨_, rfl, ?_⟩; have n0_ := Aside0.mk (blk_below (g := gb325) (o := .cells #[.slice A0_0 l0_0.length c0_0, .slice A0_1 l0_1.length c0_1, .slice A0_2 l0_2.length c0_2, .int .i64 a0_3, .int .i64 a0_4] 33 (0, 0)) (by (with_reducible repeat (first | refine blk_drewN ?_ _ | refine blk_drew ?_ | refine blk_alloc ?_ _)); exact BK325.out) hb); have n1_ := Aside0.mk (below_step (by repeat (first | (with_reducible first | exact HB.out | apply below_alloc | apply pw_below_drewN | apply below_drew1 | refine below_set ?_ GE325.out) | exact HB.out)) hb); clear BK325; clear HB; have BK325 := n0_; have HB := n1_; clear n0_ n1_; (try clear hb); (try clear hb2); (try clear hk); (try clear hi); have hcz16_0 : w15.cell? ⟨gb325, 0, none⟩ = some (.slice A0_0 l0_0.length c0_0) := (blk_cell BK325.out 0).trans rfl; have hcz16_1 : w15.cell? ⟨gb325, 1, none⟩ = some (.slice A0_1 l0_1.length c0_1) := (blk_cell BK325.out 1).trans rfl; have hcz16_2 : w15.cell? ⟨gb325, 2, none⟩ = some (.slice A0_2 l0_2.length c0_2) := (blk_cell BK325.out 2).trans rfl; have hcz16_3 : w15.cell? ⟨gb325, 3, none⟩ = some (.int .i64 a0_3) := (blk_cell BK325.out 3).trans rfl; have hcz16_4 : w15.cell? ⟨gb325, 4, none⟩ = some (.int .i64 a0_4) := (blk_cell BK325.out 4).trans rfl; have hfz16_0 := blk_frozen BK325.out 0; have hfz16_1 := blk_frozen BK325.out 1; have hfz16_2 := blk_frozen BK325.out 2; have hfz16_3 := blk_frozen BK325.out 3; have hfz16_4 := blk_frozen BK325.out 4) | (go_at_call 81; (with_reducible refine (impl_within.calls a1 0 (wrap64 ((l0_0.length : Int) - 1)) false _ A5.out).mono ?_); rintro e w' ⟨rfl, ⟨nd, rfl⟩⟩))
   go_ret2
   exact ⟨_, by first | rfl | (simp [errW_none, errW_some] <;> rfl) | (simp [*, errW_none, errW_some] <;> rfl) | (simp [Int.tdiv_eq_ediv_of_nonneg, *]; done), by first | exact Kd.S_nil _ _ _ _ _ | exact Kd.N_nil _ _ _ _ _ | exact Kd.V_nil _ _ _ _ _ | exact Kd.Q_nil _ _ _ _ _ | exact Kd.R_nil _ _ _ _ _, by repeat (first | (with_reducible first | exact HB.out | apply below_alloc | apply pw_below_drewN | apply below_drew1 | refine below_set ?_ GE325.out) | exact HB.out)⟩
 ·replace c4 := Bool.eq_false_iff.mpr c4
  subst c4
  have H1 : (some (([] : List (List Int)), false)) = some (r1, r2) := by rw [if_neg (show ¬ (false = true) by decide)] at H; exact H
  clear H
  have H := H1
  clear H1
  simp only [Option.some.injEq, Prod.mk.injEq] at H
  obtain ⟨rfl, rfl⟩ := H
  go_enter Try.func22, Try.ntmps22
  go_wp2_with (first | ((with_reducible refine gate_dst (N := 2) rfl ?_); (try (refine gate_guard (by rfl) ?_; dsimp only)); refine box_event ?hg (N := 2) ?hd (cs := #[.slice A0_0 l0_0.length c0_0, .slice A0_1 l0_1.length c0_1, .slice A0_2 l0_2.length c0_2, .int .i64 a0_3, .int .i64 a0_4]) (t := 33) ?hr ?_; (case hd => rfl); (case hg => rfl); (case hr => first | (go_simp; done) | (go_simp; rfl)); intro gb325 hg w17 hbox hb; have n0_ := Aside0.mk (below_step (by repeat (first | (with_reducible first | exact HB.out | apply below_alloc | apply pw_below_drewN | apply below_drew1) | exact HB.out)) hb); have n1_ := Aside0.mk (hbox); have n2_ := Aside0.mk ((by rw [hg]; exact (below_size (by repeat (first | (with_reducible first | exact HB.out | apply below_alloc | apply pw_below_drewN | apply below_drew1) | exact HB.out))) : w.heap.size ≤ gb325)); have n3_ := Aside0.mk ((by rw [hg]; exact (below_size (by repeat (first | (with_reducible first | exact HB.out | apply below_alloc | apply pw_below_drewN | apply below_drew1) | exact HB.out))) : w.heap.size ≤ gb325)); clear HB; have HB := n0_; have BK325 := n1_; have GW325 := n2_; have GE325 := n3_; clear n0_ n1_ n2_ n3_; clear hb hbox hg; have hcz18_0 : w17.cell? ⟨gb325, 0, none⟩ = some (.slice A0_0 l0_0.length c0_0) := (blk_cell BK325.out 0).trans rfl; have hcz18_1 : w17.cell? ⟨gb325, 1, none⟩ = some (.slice A0_1 l0_1.length c0_1) := (blk_cell BK325.out 1).trans rfl; have hcz18_2 : w17.cell? ⟨gb325, 2, none⟩ = some (.slice A0_2 l0_2.length c0_2) := (blk_cell BK325.out 2).trans rfl; have hcz18_3 : w17.cell? ⟨gb325, 3, none⟩ = some (.int .i64 a0_3) := (blk_cell BK325.out 3).trans rfl; have hcz18_4 : w17.cell? ⟨gb325, 4, none⟩ = some (.int .i64 a0_4) := (blk_cell BK325.out 4).trans rfl; have hfz18_0 := blk_frozen BK325.out 0; have hfz18_1 := blk_frozen BK325.out 1; have hfz18_2 := blk_frozen BK325.out 2; have hfz18_3 := blk_frozen BK325.out 3; have hfz18_4 := blk_frozen BK325.out 4) | ((with_reducible refine gate_callee (f := 80) rfl ?_); refine goesL_ (some 7) rfl rfl Try.func80 (by kernel_rfl) rfl #[.agg #[.slice A0_0 l0_0.length c0_0, .slice A0_1 l0_1.length c0_1, .slice A0_2 l0_2.length c0_2, .int .i64 a0_3, .int .i64 a0_4]] rfl (by (try simp only [List.map_toArray, List.map_cons, List.map_nil]); first | done | rfl | (simp only [List.length_drop, List.length_take]; rfl)) ?_; (with_reducible refine (impl_ValidHead.calls k _ _ l0_0 _ _ l0_1 _ _ l0_2 a0_3 a0_4 false _ ?side1 ?side2 ?side3 ?side4 ?side5 ?side6 A3.out).mono ?_); (case side1 => repeat (first | exact (Kd.C_below HR0_0.out HB.out) | (with_reducible refine Kd.C_alloc ?_ _) | (with_reducible refine Kd.C_drewN ?_ _) | (with_reducible refine Kd.C_drew ?_))); (case side2 => exact HC0_0.out); (case side3 => repeat (first | exact (Kd.C_below HR0_1.out HB.out) | (with_reducible refine Kd.C_alloc ?_ _) | (with_reducible refine Kd.C_drewN ?_ _) | (with_reducible refine Kd.C_drew ?_))); (case side4 => exact HC0_1.out); (case side5 => repeat (first | exact (Kd.C_below HR0_2.out HB.out) | (with_reducible refine Kd.C_alloc ?_ _) | (with_reducible refine Kd.C_drewN ?_ _) | (with_reducible refine Kd.C_drew ?_))); (case side6 => exact HC0_2.out); rintro e w19 ⟨rfl, hb⟩; refine ⟨_, rfl, ?_⟩; have n0_ := Aside0.mk (blk_below (g := gb325) (o := .cells #[.slice A0_0 l0_0.length c0_0, .slice A0_1 l0_1.length c0_1, .slice A0_2 l0_2.length c0_2, .int .i64 a0_3, .int .i64 a0_4] 33 (0, 0)) (by (with_reducible repeat (first | refine blk_drewN ?_ _ | refine blk_drew ?_ | refine blk_alloc ?_ _)); exact BK325.out) hb); have n1_ := Aside0.mk (below_step (by repeat (first | (with_reducible first | exact HB.out | apply below_alloc | apply pw_below_drewN | apply below_drew1 | refine below_set ?_ GE325.out) | exact HB.out)) hb); clear BK325; clear HB; have BK325 := n0_; have HB := n1_; clear n0_ n1_; (try clear hb); (try clear hb2); (try clear hk); (try clear hi)))
  go_ret2
  exact ⟨_, by first | rfl | (simp [errW_none, errW_some] <;> rfl) | (simp [*, errW_none, errW_some] <;> rfl) | (simp [Int.tdiv_eq_ediv_of_nonneg, *]; done), by first | exact Kd.S_nil _ _ _ _ _ | exact Kd.N_nil _ _ _ _ _ | exact Kd.V_nil _ _ _ _ _ | exact Kd.Q_nil _ _ _ _ _ | exact Kd.R_nil _ _ _ _ _, by repeat (first | (with_reducible first | exact HB.out | apply below_alloc | apply pw_below_drewN | apply below_drew1 | refine below_set ?_ GE325.out) | exact HB.out)⟩

def laws_eqInt64SS.l0 : Nat → List (List Int) → List (List Int) → Int → Option (Bool)
 | 0, _, _, _ => none
 | k + 1, x0, x1, x5 => if x5 < (x0.length : Int) then (if 0 ≤ x5 then (if x5 < (x1.length : Int) then ((laws_eqInt64S.f k (rd_L2 x0 x5) (rd_L2 x1 x5)).bind fun t334 => (if t334 = true then (laws_eqInt64SS.l0 k x0 x1 (wrap64 (x5 + 1))) else (some false))) else (none)) else (none)) else (some true)
def laws_eqInt64SS.f (k : Nat) (l0 : List (List Int)) (l1 : List (List Int)) : Option (Bool) := if (l0.length : Int) = (l1.length : Int) then (laws_eqInt64SS.l0 k l0 l1 0) else (some false)
set_option maxHeartbeats 8000000 in
set_option maxRecDepth 100000 in
theorem laws_eqInt64SS.calls (k : Nat) (A0 : Option Addr) (c0 : Nat) (l0 : List (List Int)) (A1 : Option Addr) (c1 : Nat) (l1 : List (List Int)) (r : Bool) (w : World) (hr0 : Kd.C (Kd.slice 2 (Kd.int .i64)) w A0 l0.length l0) (hc0 : l0.length ≤ c0) (hr1 : Kd.C (Kd.slice 2 (Kd.int .i64)) w A1 l1.length l1) (hc1 : l1.length ≤ c1) (h : laws_eqInt64SS.f k l0 l1 = some r) :
  Calls Try.prog 23 #[.slice A0 l0.length c0, .slice A1 l1.length c1] w fun e w' => e = .returned (.bool r) ∧ Drawn0 w w' := by
 have HR0 := Aside0.mk hr0
 have HC0 := Aside0.mk hc0
 clear hr0 hc0
 have HR1 := Aside0.mk hr1
 have HC1 := Aside0.mk hc1
 clear hr1 hc1
 have H : (if (l0.length : Int) = (l1.length : Int) then (laws_eqInt64SS.l0 k l0 l1 0) else (some false)) = some r := h
 clear h
 by_cases c3 : (l0.length : Int) = (l1.length : Int)
 ·rw [if_pos c3] at H
  have c3b0 : ((l0.length : Int) == (l1.length : Int)) = true := beq_iff_eq.mpr c3
  have c3b1 : ((l0.length : Int) != (l1.length : Int)) = false := bne_eq_false_iff_eq.mpr c3
  have c3b2 : (l0.length == l1.length) = true := by first | simpa using c3 | (simp at c3 ⊢; omega)
  clear c3
  have H' := Aside0.mk H
  clear H
  go_enter Try.func23, Try.ntmps23
  go_wp2
  repeat (go_quiet (fail); try go_wp2)
  go_loopg [5] k (fun kq v5 w' => ∃ (x5_1 : Int), v5 = .int .i64 x5_1 ∧ Aside0 (laws_eqInt64SS.l0 kq l0 l1 x5_1 = some r) ∧ Aside0 (kq ≤ k) ∧ Drawn0 w w')
  case atStart => exact ⟨(0), (by first | rfl | (simp; done) | (simp [*]; done) | (simp [Int.tdiv_eq_ediv_of_nonneg, *]; done)), H', ⟨Nat.le_refl _⟩, by repeat (first | exact Drawn0.refl _ | apply Drawn0.step)⟩
  case round =>
   clear H'
   try clear c1
   try clear c2
   try clear p2
   try clear c3
   try clear c3b0
   try clear c3b1
   try clear c3b2
   obtain ⟨x5_1, rfl, HA, HK1, ⟨m1, rfl⟩⟩ := hrel
   cases gk with
   | zero => exact absurd HA.out (by simp [laws_eqInt64SS.l0])
   | succ k1 =>
    have H := HA.out
    clear HA
    simp only [laws_eqInt64SS.l0] at H
    by_cases c4 : x5_1 < (l0.length : Int)
    ·rw [if_pos c4] at H
     have c4b0 : decide (x5_1 < (l0.length : Int)) = true := decide_eq_true c4
     clear c4
     by_cases c5 : 0 ≤ x5_1
     ·rw [if_pos c5] at H
      have c5b0 : decide (0 ≤ x5_1) = true := decide_eq_true c5
      clear c5
      by_cases c6 : x5_1 < (l1.length : Int)
      ·rw [if_pos c6] at H
       have c6b0 : decide (x5_1 < (l1.length : Int)) = true := decide_eq_true c6
       clear c6
       replace H := Option.bind_eq_some_iff.mp H
       obtain ⟨t334, A70, H⟩ := H
       replace H : (if t334 = true then (laws_eqInt64SS.l0 k1 l0 l1 (wrap64 (x5_1 + 1))) else (some false)) = some r := H
       have A7 := Aside0.mk A70
       clear A70
       by_cases c8 : t334 = true
       ·subst c8
        have H1 : (laws_eqInt64SS.l0 k1 l0 l1 (wrap64 (x5_1 + 1))) = some r := by rw [if_pos rfl] at H; exact H
        clear H
        have H := H1
        clear H1
        have H' := Aside0.mk H
        clear H
        have p332 : 0 ≤ (x5_1 : Int) := of_decide_eq_true (by first | (with_reducible assumption) | assumption)
        have q332 : x5_1 < (l0.length : Int) := of_decide_eq_true (by first | (with_reducible assumption) | assumption)
        obtain ⟨ad332, A332_0, c332_0, e332, hx332_0, hl332_0, hi332_0⟩ := at_L2 HR0.out x5_1 p332 q332
        cases e332
        have HR332_0 := Aside0.mk hi332_0
        have HC332_0 := Aside0.mk hl332_0
        clear hi332_0 hl332_0
        replace p332 := eq_true p332
        replace q332 := eq_true q332
        have p333 : 0 ≤ (x5_1 : Int) := of_decide_eq_true (by first | (with_reducible assumption) | assumption)
        have q333 : x5_1 < (l1.length : Int) := of_decide_eq_true (by first | (with_reducible assumption) | assumption)
        obtain ⟨ad333, A333_0, c333_0, e333, hx333_0, hl333_0, hi333_0⟩ := at_L2 HR1.out x5_1 p333 q333
        cases e333
        have HR333_0 := Aside0.mk hi333_0
        have HC333_0 := Aside0.mk hl333_0
        clear hi333_0 hl333_0
        replace p333 := eq_true p333
        replace q333 := eq_true q333
        go_wp2_with (first | (go_at_call 31; (with_reducible refine (laws_eqInt64S.calls k1 _ _ (rd_L2 l0 x5_1) _ _ (rd_L2 l1 x5_1) true _ ?side1 ?side2 ?side3 ?side4 A7.out).mono ?_); (case side1 => repeat (first | exact HR332_0.out | (with_reducible refine Kd.C_alloc ?_ _) | (with_reducible refine Kd.C_drewN ?_ _) | (with_reducible refine Kd.C_drew ?_))); (case side2 => exact HC332_0.out); (case side3 => repeat (first | exact HR333_0.out | (with_reducible refine Kd.C_alloc ?_ _) | (with_reducible refine Kd.C_drewN ?_ _) | (with_reducible refine Kd.C_drew ?_))); (case side4 => exact HC333_0.out); rintro e w' ⟨rfl, ⟨nd, rfl⟩⟩; (try first | exact ⟨rfl, _, World.drewN_drewN _ _ _⟩ | exact ⟨rfl, _, Eq.trans (World.drewN_drewN _ _ _) (congrArg (World.drewN _) (Nat.add_assoc _ _ _))⟩)))
        repeat (go_quiet (first | (go_at_call 31; (with_reducible refine (laws_eqInt64S.calls k1 _ _ (rd_L2 l0 x5_1) _ _ (rd_L2 l1 x5_1) true _ ?side1 ?side2 ?side3 ?side4 A7.out).mono ?_); (case side1 => repeat (first | exact HR332_0.out | (with_reducible refine Kd.C_alloc ?_ _) | (with_reducible refine Kd.C_drewN ?_ _) | (with_reducible refine Kd.C_drew ?_))); (case side2 => exact HC332_0.out); (case side3 => repeat (first | exact HR333_0.out | (with_reducible refine Kd.C_alloc ?_ _) | (with_reducible refine Kd.C_drewN ?_ _) | (with_reducible refine Kd.C_drew ?_))); (case side4 => exact HC333_0.out); rintro e w' ⟨rfl, ⟨nd, rfl⟩⟩; (try first | exact ⟨rfl, _, World.drewN_drewN _ _ _⟩ | exact ⟨rfl, _, Eq.trans (World.drewN_drewN _ _ _) (congrArg (World.drewN _) (Nat.add_assoc _ _ _))⟩))); try go_wp2_with (first | (go_at_call 31; (with_reducible refine (laws_eqInt64S.calls k1 _ _ (rd_L2 l0 x5_1) _ _ (rd_L2 l1 x5_1) true _ ?side1 ?side2 ?side3 ?side4 A7.out).mono ?_); (case side1 => repeat (first | exact HR332_0.out | (with_reducible refine Kd.C_alloc ?_ _) | (with_reducible refine Kd.C_drewN ?_ _) | (with_reducible refine Kd.C_drew ?_))); (case side2 => exact HC332_0.out); (case side3 => repeat (first | exact HR333_0.out | (with_reducible refine Kd.C_alloc ?_ _) | (with_reducible refine Kd.C_drewN ?_ _) | (with_reducible refine Kd.C_drew ?_))); (case side4 => exact HC333_0.out); rintro e w' ⟨rfl, ⟨nd, rfl⟩⟩; (try first | exact ⟨rfl, _, World.drewN_drewN _ _ _⟩ | exact ⟨rfl, _, Eq.trans (World.drewN_drewN _ _ _) (congrArg (World.drewN _) (Nat.add_assoc _ _ _))⟩))))
        go_roundg k1
        case measure => have := HK1.out; omega
        case rel => exact ⟨(wrap64 (x5_1 + 1)), (by first | rfl | (simp; done) | (simp [*]; done) | (simp [Int.tdiv_eq_ediv_of_nonneg, *]; done)), H', ⟨by have := HK1.out; omega⟩, by repeat (first | exact Drawn0.refl _ | apply Drawn0.step)⟩
       ·replace c8 := Bool.eq_false_iff.mpr c8
        subst c8
        have H1 : (some false) = some r := by rw [if_neg (show ¬ (false = true) by decide)] at H; exact H
        clear H
        have H := H1
        clear H1
        obtain rfl := Option.some.inj H
        have p332 : 0 ≤ (x5_1 : Int) := of_decide_eq_true (by first | (with_reducible assumption) | assumption)
        have q332 : x5_1 < (l0.length : Int) := of_decide_eq_true (by first | (with_reducible assumption) | assumption)
        obtain ⟨ad332, A332_0, c332_0, e332, hx332_0, hl332_0, hi332_0⟩ := at_L2 HR0.out x5_1 p332 q332
        cases e332
        have HR332_0 := Aside0.mk hi332_0
        have HC332_0 := Aside0.mk hl332_0
        clear hi332_0 hl332_0
        replace p332 := eq_true p332
        replace q332 := eq_true q332
        have p333 : 0 ≤ (x5_1 : Int) := of_decide_eq_true (by first | (with_reducible assumption) | assumption)
        have q333 : x5_1 < (l1.length : Int) := of_decide_eq_true (by first | (with_reducible assumption) | assumption)
        obtain ⟨ad333, A333_0, c333_0, e333, hx333_0, hl333_0, hi333_0⟩ := at_L2 HR1.out x5_1 p333 q333
        cases e333
        have HR333_0 := Aside0.mk hi333_0
        have HC333_0 := Aside0.mk hl333_0
        clear hi333_0 hl333_0
        replace p333 := eq_true p333
        replace q333 := eq_true q333
        go_wp2_with (first | (go_at_call 31; (with_reducible refine (laws_eqInt64S.calls k1 _ _ (rd_L2 l0 x5_1) _ _ (rd_L2 l1 x5_1) false _ ?side1 ?side2 ?side3 ?side4 A7.out).mono ?_); (case side1 => repeat (first | exact HR332_0.out | (with_reducible refine Kd.C_alloc ?_ _) | (with_reducible refine Kd.C_drewN ?_ _) | (with_reducible refine Kd.C_drew ?_))); (case side2 => exact HC332_0.out); (case side3 => repeat (first | exact HR333_0.out | (with_reducible refine Kd.C_alloc ?_ _) | (with_reducible refine Kd.C_drewN ?_ _) | (with_reducible refine Kd.C_drew ?_))); (case side4 => exact HC333_0.out); rintro e w' ⟨rfl, ⟨nd, rfl⟩⟩; (try first | exact ⟨rfl, _, World.drewN_drewN _ _ _⟩ | exact ⟨rfl, _, Eq.trans (World.drewN_drewN _ _ _) (congrArg (World.drewN _) (Nat.add_assoc _ _ _))⟩)))
        repeat (go_quiet (first | (go_at_call 31; (with_reducible refine (laws_eqInt64S.calls k1 _ _ (rd_L2 l0 x5_1) _ _ (rd_L2 l1 x5_1) false _ ?side1 ?side2 ?side3 ?side4 A7.out).mono ?_); (case side1 => repeat (first | exact HR332_0.out | (with_reducible refine Kd.C_alloc ?_ _) | (with_reducible refine Kd.C_drewN ?_ _) | (with_reducible refine Kd.C_drew ?_))); (case side2 => exact HC332_0.out); (case side3 => repeat (first | exact HR333_0.out | (with_reducible refine Kd.C_alloc ?_ _) | (with_reducible refine Kd.C_drewN ?_ _) | (with_reducible refine Kd.C_drew ?_))); (case side4 => exact HC333_0.out); rintro e w' ⟨rfl, ⟨nd, rfl⟩⟩; (try first | exact ⟨rfl, _, World.drewN_drewN _ _ _⟩ | exact ⟨rfl, _, Eq.trans (World.drewN_drewN _ _ _) (congrArg (World.drewN _) (Nat.add_assoc _ _ _))⟩))); try go_wp2_with (first | (go_at_call 31; (with_reducible refine (laws_eqInt64S.calls k1 _ _ (rd_L2 l0 x5_1) _ _ (rd_L2 l1 x5_1) false _ ?side1 ?side2 ?side3 ?side4 A7.out).mono ?_); (case side1 => repeat (first | exact HR332_0.out | (with_reducible refine Kd.C_alloc ?_ _) | (with_reducible refine Kd.C_drewN ?_ _) | (with_reducible refine Kd.C_drew ?_))); (case side2 => exact HC332_0.out); (case side3 => repeat (first | exact HR333_0.out | (with_reducible refine Kd.C_alloc ?_ _) | (with_reducible refine Kd.C_drewN ?_ _) | (with_reducible refine Kd.C_drew ?_))); (case side4 => exact HC333_0.out); rintro e w' ⟨rfl, ⟨nd, rfl⟩⟩; (try first | exact ⟨rfl, _, World.drewN_drewN _ _ _⟩ | exact ⟨rfl, _, Eq.trans (World.drewN_drewN _ _ _) (congrArg (World.drewN _) (Nat.add_assoc _ _ _))⟩))))
        go_ret
        exact ⟨by first | rfl | (simp; done) | (simp [*]; done) | (simp [Int.tdiv_eq_ediv_of_nonneg, *]; done), by repeat (first | exact Drawn0.refl _ | apply Drawn0.step)⟩
      ·rw [if_neg c6] at H
       exact absurd H (by simp)
     ·rw [if_neg c5] at H
      exact absurd H (by simp)
    ·rw [if_neg c4] at H
     have c4b0 : decide (x5_1 < (l0.length : Int)) = false := decide_eq_false c4
     clear c4
     obtain rfl := Option.some.inj H
     go_wp2
     repeat (go_quiet (fail); try go_wp2)
     go_ret
     exact ⟨by first | rfl | (simp; done) | (simp [*]; done) | (simp [Int.tdiv_eq_ediv_of_nonneg, *]; done), by repeat (first | exact Drawn0.refl _ | apply Drawn0.step)⟩
 ·rw [if_neg c3] at H
  have c3b0 : ((l0.length : Int) == (l1.length : Int)) = false := beq_eq_false_iff_ne.mpr c3
  have c3b1 : ((l0.length : Int) != (l1.length : Int)) = true := bne_iff_ne.mpr c3
  have c3b2 : (l0.length == l1.length) = false := by first | simpa using c3 | (simp at c3 ⊢; omega)
  obtain rfl := Option.some.inj H
  go_enter Try.func23, Try.ntmps23
  go_wp2
  repeat (go_quiet (fail); try go_wp2)
  go_ret
  exact ⟨by first | rfl | (simp; done) | (simp [*]; done) | (simp [Int.tdiv_eq_ediv_of_nonneg, *]; done), by repeat (first | exact Drawn0.refl _ | apply Drawn0.step)⟩

def laws_markInt64SS.l0 : Nat → List (List Int) → Int → Int → Option (Int × List (List Int))
 | 0, _, _, _ => none
 | k + 1, x0, x1, x5 => if x5 < (x0.length : Int) then (if 0 ≤ x5 then ((laws_markInt64S.f k (x0.getD (x5 : Int).toNat ([] : List Int)) x1).bind fun bt => (laws_markInt64SS.l0 k (x0.set (x5 : Int).toNat bt.2) bt.1 (wrap64 (x5 + 1)))) else (none)) else (some (x1, x0))
def laws_markInt64SS.f (k : Nat) (l0 : List (List Int)) (a1 : Int) : Option (Int × List (List Int)) := laws_markInt64SS.l0 k l0 a1 0
set_option maxHeartbeats 8000000 in
set_option maxRecDepth 100000 in
theorem laws_markInt64SS.calls (k : Nat) (P0_ : Nat → Prop) (u9000_ : Value) (l0 : List (List Int)) (a1 : Int) (r1 : Int) (r2 : List (List Int)) (w0 w : World) (hB : Below w0.heap.size w0 w) (ho0 : Kd.S (Kd.slice 2 (Kd.int .i64)) 23 w w0.heap.size P0_ u9000_ l0) (h : laws_markInt64SS.f k l0 a1 = some (r1, r2)) :
  Calls Try.prog 25 #[u9000_, .int .i64 a1] w fun e w' => e = .returned (.int .i64 r1) ∧ Kd.S (Kd.slice 2 (Kd.int .i64)) 23 w' w0.heap.size (fun k_ => (P0_ k_ ∨ w.heap.size ≤ k_)) u9000_ r2 ∧ Below w0.heap.size w0 w' ∧ Kept w w' (fun k_ => P0_ k_) := by
 have HO0 := Aside0.mk (show Kd.S (Kd.slice 2 (Kd.int .i64)) 23 w w0.heap.size (fun k_ => (P0_ k_ ∨ w.heap.size ≤ k_)) u9000_ l0 from Kd.S_mono ho0 (fun k_ hk => (.inl hk)))
 have HK := Aside0.mk (Kept.refl w (fun k_ => P0_ k_))
 have HB := Aside0.mk hB
 clear hB ho0
 have H : (laws_markInt64SS.l0 k l0 a1 0) = some (r1, r2) := h
 clear h
 have H' := Aside0.mk H
 clear H
 go_enter Try.func25, Try.ntmps25
 go_wp2
 go_loopg [1, 5] k (fun kq v1 v5 w' => ∃ (x0_1 : List (List Int)) (x1_1 : Int) (x5_1 : Int), v1 = .int .i64 x1_1 ∧ v5 = .int .i64 x5_1 ∧ Aside0 (laws_markInt64SS.l0 kq x0_1 x1_1 x5_1 = some (r1, r2)) ∧ Aside0 (kq ≤ k) ∧ Aside0 (Kd.S (Kd.slice 2 (Kd.int .i64)) 23 w' w0.heap.size (fun k_ => (P0_ k_ ∨ w.heap.size ≤ k_)) u9000_ x0_1) ∧ Aside0 (Kept w w' (fun k_ => P0_ k_)) ∧ Aside0 (Below w0.heap.size w0 w'))
 case atStart => exact ⟨(l0), (a1), (0), (by first | rfl | (simp; done)), (by first | rfl | (simp; done)), H', ⟨Nat.le_refl _⟩, ⟨by (with_reducible repeat (first | apply Kd.S_alloc | apply Kd.S_drewN | apply Kd.S_drew)); exact HO0.out⟩, ⟨by repeat (first | (with_reducible first | exact HK.out | apply Kept.alloc | apply Kept.drewN | apply Kept.drew) | exact HK.out)⟩, ⟨by repeat (first | (with_reducible first | exact HB.out | apply below_alloc | apply pw_below_drewN | apply below_drew1) | exact HB.out)⟩⟩
 case round =>
  clear H'
  obtain ⟨x0_1, x1_1, x5_1, rfl, rfl, HA, HK1, HO_0, HK, HB⟩ := hrel
  cases gk with
  | zero => exact absurd HA.out (by simp [laws_markInt64SS.l0])
  | succ k1 =>
   have H := HA.out
   clear HA
   simp only [laws_markInt64SS.l0] at H
   by_cases c3 : x5_1 < (x0_1.length : Int)
   ·rw [if_pos c3] at H
    have c3b0 : decide (x5_1 < (x0_1.length : Int)) = true := decide_eq_true c3
    by_cases c4 : 0 ≤ x5_1
    ·rw [if_pos c4] at H
     have c4b0 : decide (0 ≤ x5_1) = true := decide_eq_true c4
     replace H := Option.bind_eq_some_iff.mp H
     obtain ⟨⟨t1, t2⟩, A50, H⟩ := H
     obtain ⟨row, hrow⟩ : ∃ row, row = x0_1.getD (x5_1 : Int).toNat ([] : List Int) := ⟨_, rfl⟩
     rw [← hrow] at A50
     have A5 := Aside0.mk A50
     clear A50
     have H' := Aside0.mk H
     clear H
     obtain ⟨Ao6, co6, eo6⟩ := Kd.S_slice HO_0.out
     subst eo6
     obtain ⟨go5, co5, eo5, gb5, gl5, HG5⟩ := Kd.S_form HO_0.out (by omega)
     (first | cases eo5 | (injection eo5 with ea_ en_ ec_; (first | subst ea_ | (injection ea_ with ea_; subst ea_)); subst ec_; clear en_))
     clear gb5 gl5 HG5
     obtain ⟨oki, c, hcl, hM, hcc, hok, hH⟩ := Kd.S_lend HO_0.out ([] : List Int) x5_1 c4 (by omega)
     rw [← hrow] at hM
     clear hrow
     obtain ⟨vr, rfl, hRow⟩ := hM
     obtain ⟨A1, c1, ev⟩ := Kd.R_slice hRow
     subst ev
     have hx := hcc 0 _ rfl
     rw [Nat.add_zero, show ((Kd.slice 2 (Kd.int .i64))).sz = 1 from rfl, Nat.mul_one] at hx
     have HROW := Aside0.mk hRow
     have HHOLE := Aside0.mk hH
     have HOK := Aside0.mk hok
     clear hcc hcl hRow hH hok
     have p5 := eq_true c4
     have q5 := eq_true c3
     clear c3 c4
     go_wp2_with (first | (go_at_call 34; (with_reducible refine (laws_markInt64S.calls k1 oki _ _ x1_1 t1 t2 w0 _ HB.out HROW.out A5.out).mono ?_); rintro e w8 ⟨rfl, hR2, hB2, hK2⟩; refine ⟨_, rfl, ?_⟩; have HR2 := Aside0.mk hR2; have HB2 := Aside0.mk hB2; have HK2 := Aside0.mk hK2; clear hR2 hB2 hK2) | (go_at_call 34; (with_reducible refine (laws_markInt64S.calls k1 oki _ _ x1_1 t1 t2 w0 _ HB.out HROW.out A5.out).mono ?_); rintro e w8 ⟨rfl, hR2, hB2, hK2⟩; have HR2 := Aside0.mk hR2; have HB2 := Aside0.mk hB2; have HK2 := Aside0.mk hK2; clear hR2 hB2 hK2))
     go_roundg k1
     case measure => have := HK1.out; omega
     case rel =>
      refine ⟨_, _, _, (by first | rfl | (simp; done) | (simp [*]; done) | (simp [Int.tdiv_eq_ediv_of_nonneg, *]; done)), (by first | rfl | (simp; done) | (simp [*]; done) | (simp [Int.tdiv_eq_ediv_of_nonneg, *]; done)), H', ⟨by have := HK1.out; omega⟩, ⟨?_⟩, ⟨?_⟩, HB2⟩
      ·have hs := HK.out.1
       have h1 := Kd.H_step (Kd.H_widen HHOLE.out) (fun q hq hn hlt => HK2.out.2 q hlt (fun ho => hn (.inl ho)))
       refine Kd.H_back h1 (x' := t2) (okp := fun q => oki q ∨ _ ≤ q) ⟨_, rfl, HR2.out⟩ ?_
       rintro q (hq | hq)
       ·exact .inl hq
       ·exact .inr ⟨.inr (Nat.le_trans hs hq), hq⟩
      ·have hs := HK.out.1
       refine ⟨Nat.le_trans hs HK2.out.1, fun q hq hn => ?_⟩
       refine (HK2.out.2 q (Nat.lt_of_lt_of_le hq hs) (fun ho => ?_)).trans (HK.out.2 q hq hn)
       rcases (HOK.out q ho).1 with h1 | h1
       ·exact hn h1
       ·omega
    ·rw [if_neg c4] at H
     exact absurd H (by simp)
   ·rw [if_neg c3] at H
    have c3b0 : decide (x5_1 < (x0_1.length : Int)) = false := decide_eq_false c3
    clear c3
    simp only [Option.some.injEq, Prod.mk.injEq] at H
    obtain ⟨rfl, rfl⟩ := H
    obtain ⟨Ao9, co9, eo9⟩ := Kd.S_slice HO_0.out
    subst eo9
    go_wp2
    go_ret
    exact ⟨by first | rfl | (simp; done) | (simp [*]; done) | (simp [Int.tdiv_eq_ediv_of_nonneg, *]; done), by (with_reducible repeat (first | apply Kd.S_alloc | apply Kd.S_drewN | apply Kd.S_drew)); exact HO_0.out, by repeat (first | (with_reducible first | exact HB.out | apply below_alloc | apply pw_below_drewN | apply below_drew1) | exact HB.out), by repeat (first | (with_reducible first | exact HK.out | apply Kept.alloc | apply Kept.drewN | apply Kept.drew) | exact HK.out)⟩

def laws_heldInt64SS.l0 : Nat → List (List Int) → Int → Int → Option (Int)
 | 0, _, _, _ => none
 | k + 1, x0, x1, x5 => if x5 < (x0.length : Int) then (if 0 ≤ x5 then ((laws_heldInt64S.f k (rd_L2 x0 x5) x1).bind fun t347 => (if t347 < 0 then (some (-1)) else (laws_heldInt64SS.l0 k x0 t347 (wrap64 (x5 + 1))))) else (none)) else (some x1)
def laws_heldInt64SS.f (k : Nat) (l0 : List (List Int)) (a1 : Int) : Option (Int) := laws_heldInt64SS.l0 k l0 a1 0
set_option maxHeartbeats 8000000 in
set_option maxRecDepth 100000 in
theorem laws_heldInt64SS.calls (k : Nat) (A0 : Option Addr) (c0 : Nat) (l0 : List (List Int)) (a1 : Int) (r : Int) (w : World) (hr0 : Kd.C (Kd.slice 2 (Kd.int .i64)) w A0 l0.length l0) (hc0 : l0.length ≤ c0) (h : laws_heldInt64SS.f k l0 a1 = some r) :
  Calls Try.prog 26 #[.slice A0 l0.length c0, .int .i64 a1] w fun e w' => e = .returned (.int .i64 r) ∧ Drawn0 w w' := by
 have HR0 := Aside0.mk hr0
 have HC0 := Aside0.mk hc0
 clear hr0 hc0
 have H : (laws_heldInt64SS.l0 k l0 a1 0) = some r := h
 clear h
 have H' := Aside0.mk H
 clear H
 go_enter Try.func26, Try.ntmps26
 go_wp2
 go_loopg [1, 5] k (fun kq v1 v5 w' => ∃ (x1_1 : Int) (x5_1 : Int), v1 = .int .i64 x1_1 ∧ v5 = .int .i64 x5_1 ∧ Aside0 (laws_heldInt64SS.l0 kq l0 x1_1 x5_1 = some r) ∧ Aside0 (kq ≤ k) ∧ Drawn0 w w')
 case atStart => exact ⟨(a1), (0), (by first | rfl | (simp; done) | (simp [*]; done) | (simp [Int.tdiv_eq_ediv_of_nonneg, *]; done)), (by first | rfl | (simp; done) | (simp [*]; done) | (simp [Int.tdiv_eq_ediv_of_nonneg, *]; done)), H', ⟨Nat.le_refl _⟩, by repeat (first | exact Drawn0.refl _ | apply Drawn0.step)⟩
 case round =>
  clear H'
  try clear c2
  try clear p2
  obtain ⟨x1_1, x5_1, rfl, rfl, HA, HK1, ⟨m1, rfl⟩⟩ := hrel
  cases gk with
  | zero => exact absurd HA.out (by simp [laws_heldInt64SS.l0])
  | succ k1 =>
   have H := HA.out
   clear HA
   simp only [laws_heldInt64SS.l0] at H
   by_cases c3 : x5_1 < (l0.length : Int)
   ·rw [if_pos c3] at H
    have c3b0 : decide (x5_1 < (l0.length : Int)) = true := decide_eq_true c3
    clear c3
    by_cases c4 : 0 ≤ x5_1
    ·rw [if_pos c4] at H
     have c4b0 : decide (0 ≤ x5_1) = true := decide_eq_true c4
     clear c4
     replace H := Option.bind_eq_some_iff.mp H
     obtain ⟨t347, A50, H⟩ := H
     replace H : (if t347 < 0 then (some (-1)) else (laws_heldInt64SS.l0 k1 l0 t347 (wrap64 (x5_1 + 1)))) = some r := H
     have A5 := Aside0.mk A50
     clear A50
     by_cases c6 : t347 < 0
     ·rw [if_pos c6] at H
      have c6b0 : decide (t347 < 0) = true := decide_eq_true c6
      clear c6
      obtain rfl := Option.some.inj H
      have p346 : 0 ≤ (x5_1 : Int) := of_decide_eq_true (by first | (with_reducible assumption) | assumption)
      have q346 : x5_1 < (l0.length : Int) := of_decide_eq_true (by first | (with_reducible assumption) | assumption)
      obtain ⟨ad346, A346_0, c346_0, e346, hx346_0, hl346_0, hi346_0⟩ := at_L2 HR0.out x5_1 p346 q346
      cases e346
      have HR346_0 := Aside0.mk hi346_0
      have HC346_0 := Aside0.mk hl346_0
      clear hi346_0 hl346_0
      replace p346 := eq_true p346
      replace q346 := eq_true q346
      go_wp2_with (first | ((with_reducible refine gate_callee (f := 35) rfl ?_); refine goesL_ (some 17) rfl rfl Try.func35 (by kernel_rfl) rfl #[.slice A346_0 (rd_L2 l0 x5_1).length c346_0, .int .i64 x1_1] rfl (by (try simp only [List.map_toArray, List.map_cons, List.map_nil]); first | done | rfl | (simp only [List.length_drop, List.length_take]; rfl)) ?_; (with_reducible refine (laws_heldInt64S.calls k1 _ _ (rd_L2 l0 x5_1) x1_1 t347 _ ?side1 ?side2 A5.out).mono ?_); (case side1 => repeat (first | exact HR346_0.out | (with_reducible refine Kd.C_alloc ?_ _) | (with_reducible refine Kd.C_drewN ?_ _) | (with_reducible refine Kd.C_drew ?_))); (case side2 => exact HC346_0.out); rintro e w' ⟨rfl, ⟨nd, rfl⟩⟩; refine ⟨_, rfl, ?_⟩))
      go_ret
      exact ⟨by first | rfl | (simp; done) | (simp [*]; done) | (simp [Int.tdiv_eq_ediv_of_nonneg, *]; done), by repeat (first | exact Drawn0.refl _ | apply Drawn0.step)⟩
     ·rw [if_neg c6] at H
      have c6b0 : decide (t347 < 0) = false := decide_eq_false c6
      clear c6
      have H' := Aside0.mk H
      clear H
      have p346 : 0 ≤ (x5_1 : Int) := of_decide_eq_true (by first | (with_reducible assumption) | assumption)
      have q346 : x5_1 < (l0.length : Int) := of_decide_eq_true (by first | (with_reducible assumption) | assumption)
      obtain ⟨ad346, A346_0, c346_0, e346, hx346_0, hl346_0, hi346_0⟩ := at_L2 HR0.out x5_1 p346 q346
      cases e346
      have HR346_0 := Aside0.mk hi346_0
      have HC346_0 := Aside0.mk hl346_0
      clear hi346_0 hl346_0
      replace p346 := eq_true p346
      replace q346 := eq_true q346
      go_wp2_with (first | ((with_reducible refine gate_callee (f := 35) rfl ?_); refine goesL_ (some 17) rfl rfl Try.func35 (by kernel_rfl) rfl #[.slice A346_0 (rd_L2 l0 x5_1).length c346_0, .int .i64 x1_1] rfl (by (try simp only [List.map_toArray, List.map_cons, List.map_nil]); first | done | rfl | (simp only [List.length_drop, List.length_take]; rfl)) ?_; (with_reducible refine (laws_heldInt64S.calls k1 _ _ (rd_L2 l0 x5_1) x1_1 t347 _ ?side1 ?side2 A5.out).mono ?_); (case side1 => repeat (first | exact HR346_0.out | (with_reducible refine Kd.C_alloc ?_ _) | (with_reducible refine Kd.C_drewN ?_ _) | (with_reducible refine Kd.C_drew ?_))); (case side2 => exact HC346_0.out); rintro e w' ⟨rfl, ⟨nd, rfl⟩⟩; refine ⟨_, rfl, ?_⟩))
      go_roundg k1
      case measure => have := HK1.out; omega
      case rel => exact ⟨(t347), (wrap64 (x5_1 + 1)), (by first | rfl | (simp; done) | (simp [*]; done) | (simp [Int.tdiv_eq_ediv_of_nonneg, *]; done)), (by first | rfl | (simp; done) | (simp [*]; done) | (simp [Int.tdiv_eq_ediv_of_nonneg, *]; done)), H', ⟨by have := HK1.out; omega⟩, by repeat (first | exact Drawn0.refl _ | apply Drawn0.step)⟩
    ·rw [if_neg c4] at H
     exact absurd H (by simp)
   ·rw [if_neg c3] at H
    have c3b0 : decide (x5_1 < (l0.length : Int)) = false := decide_eq_false c3
    clear c3
    obtain rfl := Option.some.inj H
    go_wp2
    go_ret
    exact ⟨by first | rfl | (simp; done) | (simp [*]; done) | (simp [Int.tdiv_eq_ediv_of_nonneg, *]; done), by repeat (first | exact Drawn0.refl _ | apply Drawn0.step)⟩

def laws_FnExactNeedsOf.f (k : Nat) (l0_0 : List (S156)) (l0_1 : List Int) (l0_2 : List Int) (a0_3 : Int) (a0_4 : Int) (a1 : Int) : Option (Bool) :=
 (laws_szHead.f l0_0 l0_1 l0_2 a0_3 a0_4 1048576).bind fun t0 => if t0 < 0 then some true else
 (laws_toHead.f k l0_0 l0_1 l0_2 a0_3 a0_4).bind fun b1 => (spec_NeedsOf.f k b1.1 b1.2.1 b1.2.2.1 b1.2.2.2.1 b1.2.2.2.2 a1).bind fun b2 => (impl_NeedsOf.f k b1.1 b1.2.1 b1.2.2.1 b1.2.2.2.1 b1.2.2.2.2 a1).bind fun b4 =>
 (laws_eqInt64SS.f k b4.1 b2.1).bind fun t5 => if t5 = true then (if b4.2 = b2.2 then
 ((laws_eqHead.f k b1.1 b1.2.1 b1.2.2.1 b1.2.2.2.1 b1.2.2.2.2 b1.1 b1.2.1 b1.2.2.1 b1.2.2.2.1 b1.2.2.2.2).bind fun t7 => if t7 = true then
 ((laws_markHead.f k b1.1 b1.2.1 b1.2.2.1 b1.2.2.2.1 b1.2.2.2.2 1).bind fun b8 => if b8.1 < 0 then none else
 (laws_markInt64SS.f k b4.1 1).bind fun b10 => (laws_heldInt64SS.f k b10.2 1).bind fun t11 => if t11 < 0 then none else
 if t11 = b10.1 then some true else none) else none) else none) else none
set_option maxHeartbeats 8000000 in
set_option maxRecDepth 100000 in
theorem laws_FnExactNeedsOf.calls (k : Nat) (A0_0 : Option Addr) (c0_0 : Nat) (l0_0 : List (S156)) (A0_1 : Option Addr) (c0_1 : Nat) (l0_1 : List Int) (A0_2 : Option Addr) (c0_2 : Nat) (l0_2 : List Int) (a0_3 : Int) (a0_4 : Int) (a1 : Int) (r : Bool) (w : World) (hr0_0 : Kd.C k156 w A0_0 l0_0.length l0_0) (hc0_0 : l0_0.length ≤ c0_0) (hr0_1 : Kd.C (Kd.int .i64) w A0_1 l0_1.length l0_1) (hc0_1 : l0_1.length ≤ c0_1) (hr0_2 : Kd.C (Kd.int .i64) w A0_2 l0_2.length l0_2) (hc0_2 : l0_2.length ≤ c0_2) (h : laws_FnExactNeedsOf.f k l0_0 l0_1 l0_2 a0_3 a0_4 a1 = some r) :
  Calls Try.prog 4 #[.agg #[.slice A0_0 l0_0.length c0_0, .slice A0_1 l0_1.length c0_1, .slice A0_2 l0_2.length c0_2, .int .i64 a0_3, .int .i64 a0_4], .int .i64 a1] w fun e w' => e = .returned (.bool r) ∧ Below w.heap.size w w' := by
 have db : ∀ {w w' : World}, Drawn0 w w' → Below w.heap.size w w' := by
  intro w w' h_
  obtain ⟨n_, rfl⟩ := h_
  exact pw_below_drewN (Below.refl _ _) _
 have hu25 := Try.underlying25
 have hu33 := Try.underlying33
 have HR0_0 := Aside0.mk hr0_0
 have HC0_0 := Aside0.mk hc0_0
 clear hr0_0 hc0_0
 have HR0_1 := Aside0.mk hr0_1
 have HC0_1 := Aside0.mk hc0_1
 clear hr0_1 hc0_1
 have HR0_2 := Aside0.mk hr0_2
 have HC0_2 := Aside0.mk hc0_2
 clear hr0_2 hc0_2
 have HB := Aside0.mk (Below.refl w.heap.size w)
 unfold laws_FnExactNeedsOf.f at h
 replace h := Option.bind_eq_some_iff.mp h
 obtain ⟨t0, A0, h⟩ := h
 by_cases c1 : t0 < 0
 ·rw [if_pos c1] at h
  obtain rfl := Option.some.inj h
  have c1b0 : decide (t0 < 0) = true := decide_eq_true c1
  clear c1 h
  have B0 := Aside0.mk A0
  clear A0
  go_enter Try.func4, Try.ntmps4
  go_wp2_with (first | ((with_reducible refine gate_dst (N := 2) rfl ?_); refine box_event ?hg (N := 2) ?hd (cs := #[.slice A0_0 l0_0.length c0_0, .slice A0_1 l0_1.length c0_1, .slice A0_2 l0_2.length c0_2, .int .i64 a0_3, .int .i64 a0_4]) (t := 25) ?hr ?_; (case hd => rfl); (case hg => rfl); (case hr => first | (go_simp; done) | (go_simp; rfl)); intro ga hga w1 hbox hb; have HB_ := Aside0.mk (below_step HB.out hb); have BA := Aside0.mk hbox; clear hb hbox hga HB; have HB := HB_; clear HB_; have hca0 : w1.cell? ⟨ga, 0, none⟩ = some (.slice A0_0 l0_0.length c0_0) := (blk_cell BA.out 0).trans rfl; have hca1 : w1.cell? ⟨ga, 1, none⟩ = some (.slice A0_1 l0_1.length c0_1) := (blk_cell BA.out 1).trans rfl; have hca2 : w1.cell? ⟨ga, 2, none⟩ = some (.slice A0_2 l0_2.length c0_2) := (blk_cell BA.out 2).trans rfl; have hca3 : w1.cell? ⟨ga, 3, none⟩ = some (.int .i64 a0_3) := (blk_cell BA.out 3).trans rfl; have hca4 : w1.cell? ⟨ga, 4, none⟩ = some (.int .i64 a0_4) := (blk_cell BA.out 4).trans rfl; have hfa0 := blk_frozen BA.out 0; have hfa1 := blk_frozen BA.out 1; have hfa2 := blk_frozen BA.out 2; have hfa3 := blk_frozen BA.out 3; have hfa4 := blk_frozen BA.out 4) | (go_at_call 13; (with_reducible refine (laws_szHead.calls A0_0 c0_0 l0_0 A0_1 c0_1 l0_1 A0_2 c0_2 l0_2 a0_3 a0_4 1048576 t0 _ (Kd.C_below HR0_0.out HB.out) HC0_0.out (Kd.C_below HR0_1.out HB.out) HC0_1.out (Kd.C_below HR0_2.out HB.out) HC0_2.out B0.out).mono ?_); rintro e w2 ⟨rfl, hb⟩; have HB_ := Aside0.mk (below_step HB.out hb); clear hb HB; have HB := HB_; clear HB_))
  go_ret
  exact ⟨by first | rfl | (simp; done), by repeat (first | (with_reducible first | exact HB.out | apply below_alloc | apply pw_below_drewN | apply below_drew1) | exact HB.out)⟩
 ·rw [if_neg c1] at h
  have c1b0 : decide (t0 < 0) = false := decide_eq_false c1
  clear c1
  replace h := Option.bind_eq_some_iff.mp h
  obtain ⟨⟨x0, x1, x2, x3, x4⟩, A1, h⟩ := h
  replace h := Option.bind_eq_some_iff.mp h
  obtain ⟨⟨s2, g2⟩, A2, h⟩ := h
  replace h := Option.bind_eq_some_iff.mp h
  obtain ⟨⟨s4, g4⟩, A4, h⟩ := h
  replace h := Option.bind_eq_some_iff.mp h
  obtain ⟨t5, A5, h⟩ := h
  dsimp only at A2 A4 A5 h
  by_cases c5 : t5 = true
  ·rw [if_pos c5] at h
   subst c5
   by_cases c6 : g4 = g2
   ·rw [if_pos c6] at h
    have c6b0 : (g4 != g2) = false := by simpa using c6
    have c6b1 : decide (g4 = g2) = true := by simpa using c6
    have c6b2 : (g4 == g2) = true := by simpa using c6
    clear c6
    replace h := Option.bind_eq_some_iff.mp h
    obtain ⟨t7, A7, h⟩ := h
    by_cases c7 : t7 = true
    ·rw [if_pos c7] at h
     subst c7
     replace h := Option.bind_eq_some_iff.mp h
     obtain ⟨⟨k8, l80, l81, l82⟩, A8, h⟩ := h
     dsimp only at h
     by_cases c8 : k8 < 0
     ·rw [if_pos c8] at h
      exact absurd h (by simp)
     ·rw [if_neg c8] at h
      have c8b0 : decide (k8 < 0) = false := decide_eq_false c8
      clear c8
      replace h := Option.bind_eq_some_iff.mp h
      obtain ⟨⟨m10, l10⟩, A10, h⟩ := h
      replace h := Option.bind_eq_some_iff.mp h
      obtain ⟨t11, A11, h⟩ := h
      dsimp only at A11 h
      by_cases c11 : t11 < 0
      ·rw [if_pos c11] at h
       exact absurd h (by simp)
      ·rw [if_neg c11] at h
       have c11b0 : decide (t11 < 0) = false := decide_eq_false c11
       clear c11
       by_cases c12 : t11 = m10
       ·have hx : some true = some r := by rw [if_pos c12] at h; exact h
        have hr := Option.some.inj hx
        clear hx h
        subst c12
        subst hr
        have B0 := Aside0.mk A0
        have B1 := Aside0.mk A1
        have B2 := Aside0.mk A2
        have B4 := Aside0.mk A4
        have B5 := Aside0.mk A5
        have B7 := Aside0.mk A7
        have B8 := Aside0.mk A8
        have B10 := Aside0.mk A10
        have B11 := Aside0.mk A11
        have DB := Aside0.mk @db
        clear A0 A1 A2 A4 A5 A7 A8 A10 A11 db
        go_enter Try.func4, Try.ntmps4
        go_wp2_with (first | ((with_reducible refine gate_dst (N := 2) rfl ?_); refine box_event ?hg (N := 2) ?hd (cs := #[.slice A0_0 l0_0.length c0_0, .slice A0_1 l0_1.length c0_1, .slice A0_2 l0_2.length c0_2, .int .i64 a0_3, .int .i64 a0_4]) (t := 25) ?hr ?_; (case hd => rfl); (case hg => rfl); (case hr => first | (go_simp; done) | (go_simp; rfl)); intro ga hga w1 hbox hb; have HB_ := Aside0.mk (below_step HB.out hb); have BA := Aside0.mk hbox; have GA := Aside0.mk ((by rw [hga]; exact Nat.le_refl _) : w.heap.size ≤ ga); clear hb hbox hga HB; have HB := HB_; clear HB_; have hca0 : w1.cell? ⟨ga, 0, none⟩ = some (.slice A0_0 l0_0.length c0_0) := (blk_cell BA.out 0).trans rfl; have hfa0 := blk_frozen BA.out 0; have hca1 : w1.cell? ⟨ga, 1, none⟩ = some (.slice A0_1 l0_1.length c0_1) := (blk_cell BA.out 1).trans rfl; have hfa1 := blk_frozen BA.out 1; have hca2 : w1.cell? ⟨ga, 2, none⟩ = some (.slice A0_2 l0_2.length c0_2) := (blk_cell BA.out 2).trans rfl; have hfa2 := blk_frozen BA.out 2; have hca3 : w1.cell? ⟨ga, 3, none⟩ = some (.int .i64 a0_3) := (blk_cell BA.out 3).trans rfl; have hfa3 := blk_frozen BA.out 3; have hca4 : w1.cell? ⟨ga, 4, none⟩ = some (.int .i64 a0_4) := (blk_cell BA.out 4).trans rfl; have hfa4 := blk_frozen BA.out 4))
        go_wp2_with (first | (go_at_call 13; (with_reducible refine (laws_szHead.calls A0_0 c0_0 l0_0 A0_1 c0_1 l0_1 A0_2 c0_2 l0_2 a0_3 a0_4 1048576 t0 _ (Kd.C_below HR0_0.out HB.out) HC0_0.out (Kd.C_below HR0_1.out HB.out) HC0_1.out (Kd.C_below HR0_2.out HB.out) HC0_2.out B0.out).mono ?_); rintro e w2 ⟨rfl, hb⟩; have HB_ := Aside0.mk (below_step HB.out hb); have BA_ := Aside0.mk (blk_below (g := ga) (o := .cells #[.slice A0_0 l0_0.length c0_0, .slice A0_1 l0_1.length c0_1, .slice A0_2 l0_2.length c0_2, .int .i64 a0_3, .int .i64 a0_4] 25 (0, 0)) BA.out hb); clear hb; clear HB; clear BA; have HB := HB_; have BA := BA_; clear HB_ BA_; clear hca0 hfa0 hca1 hfa1 hca2 hfa2 hca3 hfa3 hca4 hfa4; have hca0 : w2.cell? ⟨ga, 0, none⟩ = some (.slice A0_0 l0_0.length c0_0) := (blk_cell BA.out 0).trans rfl; have hfa0 := blk_frozen BA.out 0; have hca1 : w2.cell? ⟨ga, 1, none⟩ = some (.slice A0_1 l0_1.length c0_1) := (blk_cell BA.out 1).trans rfl; have hfa1 := blk_frozen BA.out 1; have hca2 : w2.cell? ⟨ga, 2, none⟩ = some (.slice A0_2 l0_2.length c0_2) := (blk_cell BA.out 2).trans rfl; have hfa2 := blk_frozen BA.out 2; have hca3 : w2.cell? ⟨ga, 3, none⟩ = some (.int .i64 a0_3) := (blk_cell BA.out 3).trans rfl; have hfa3 := blk_frozen BA.out 3; have hca4 : w2.cell? ⟨ga, 4, none⟩ = some (.int .i64 a0_4) := (blk_cell BA.out 4).trans rfl; have hfa4 := blk_frozen BA.out 4))
        go_wp2_with (first | (go_at_call 16; (with_reducible refine (laws_toHead.calls k A0_0 c0_0 l0_0 A0_1 c0_1 l0_1 A0_2 c0_2 l0_2 a0_3 a0_4 x0 x1 x2 x3 x4 _ (Kd.C_below HR0_0.out HB.out) HC0_0.out (Kd.C_below HR0_1.out HB.out) HC0_1.out (Kd.C_below HR0_2.out HB.out) HC0_2.out B1.out).mono ?_); rintro e w3 ⟨v0, v1, v2, rfl, ho0, ho1, ho2, hb⟩; have HX0 := Aside0.mk ho0; have HX1 := Aside0.mk ho1; have HX2 := Aside0.mk ho2; have HB_ := Aside0.mk (below_step HB.out hb); have BA_ := Aside0.mk (blk_below (g := ga) (o := .cells #[.slice A0_0 l0_0.length c0_0, .slice A0_1 l0_1.length c0_1, .slice A0_2 l0_2.length c0_2, .int .i64 a0_3, .int .i64 a0_4] 25 (0, 0)) BA.out hb); clear hb ho0 ho1 ho2; clear HB; clear BA; have HB := HB_; have BA := BA_; clear HB_ BA_))
        obtain ⟨Ar0, cr0, er0⟩ := Kd.R_slice HX0.out
        subst er0
        obtain ⟨Ar1, cr1, er1⟩ := Kd.R_slice HX1.out
        subst er1
        obtain ⟨Ar2, cr2, er2⟩ := Kd.R_slice HX2.out
        subst er2
        go_wp2_with (first | (go_at_call 21; (with_reducible refine (spec_NeedsOf.calls k Ar0 cr0 x0 Ar1 cr1 x1 Ar2 cr2 x2 x3 x4 a1 s2 g2 _ (Kd.R_reads' HX0.out).2.2 (Kd.R_reads' HX0.out).2.1 (Kd.R_reads' HX1.out).2.2 (Kd.R_reads' HX1.out).2.1 (Kd.R_reads' HX2.out).2.2 (Kd.R_reads' HX2.out).2.1 B2.out).mono ?_); rintro e w4 ⟨v3, rfl, ho, hb⟩; have HO := Aside0.mk ho; have HB_ := Aside0.mk (below_step HB.out hb); have BA_ := Aside0.mk (blk_below (g := ga) (o := .cells #[.slice A0_0 l0_0.length c0_0, .slice A0_1 l0_1.length c0_1, .slice A0_2 l0_2.length c0_2, .int .i64 a0_3, .int .i64 a0_4] 25 (0, 0)) BA.out hb); clear hb ho HX0 HX1 HX2; clear HB; clear BA; have HB := HB_; have BA := BA_; clear HB_ BA_; clear hca0 hfa0 hca1 hfa1 hca2 hfa2 hca3 hfa3 hca4 hfa4; have hca0 : w4.cell? ⟨ga, 0, none⟩ = some (.slice A0_0 l0_0.length c0_0) := (blk_cell BA.out 0).trans rfl; have hfa0 := blk_frozen BA.out 0; have hca1 : w4.cell? ⟨ga, 1, none⟩ = some (.slice A0_1 l0_1.length c0_1) := (blk_cell BA.out 1).trans rfl; have hfa1 := blk_frozen BA.out 1; have hca2 : w4.cell? ⟨ga, 2, none⟩ = some (.slice A0_2 l0_2.length c0_2) := (blk_cell BA.out 2).trans rfl; have hfa2 := blk_frozen BA.out 2; have hca3 : w4.cell? ⟨ga, 3, none⟩ = some (.int .i64 a0_3) := (blk_cell BA.out 3).trans rfl; have hfa3 := blk_frozen BA.out 3; have hca4 : w4.cell? ⟨ga, 4, none⟩ = some (.int .i64 a0_4) := (blk_cell BA.out 4).trans rfl; have hfa4 := blk_frozen BA.out 4))
        obtain ⟨As, cs, es⟩ := Kd.S_slice HO.out
        subst es
        have HS := Aside0.mk (Kd.S_mono (ok' := fun q => q < w4.heap.size) (Kd.S_bound HO.out) (fun q hq => hq.2.2.1))
        clear HO
        have HN4 := Aside0.mk HB.out.size
        have HA4 := Aside0.mk (blk_lt BA.out)
        go_wp2_with (first | (go_at_call 16; (with_reducible refine (laws_toHead.calls k A0_0 c0_0 l0_0 A0_1 c0_1 l0_1 A0_2 c0_2 l0_2 a0_3 a0_4 x0 x1 x2 x3 x4 _ (Kd.C_below HR0_0.out HB.out) HC0_0.out (Kd.C_below HR0_1.out HB.out) HC0_1.out (Kd.C_below HR0_2.out HB.out) HC0_2.out B1.out).mono ?_); rintro e w5 ⟨v0, v1, v2, rfl, ho0, ho1, ho2, hb⟩; have HX0 := Aside0.mk ho0; have HX1 := Aside0.mk ho1; have HX2 := Aside0.mk ho2; have HN45 := Aside0.mk hb.size; have HB_ := Aside0.mk (below_step HB.out hb); have BA_ := Aside0.mk (blk_below (g := ga) (o := .cells #[.slice A0_0 l0_0.length c0_0, .slice A0_1 l0_1.length c0_1, .slice A0_2 l0_2.length c0_2, .int .i64 a0_3, .int .i64 a0_4] 25 (0, 0)) BA.out hb); have HS_ := Aside0.mk (Kd.S_below HS.out hb); clear hb ho0 ho1 ho2; clear HB; clear BA; clear HS; have HB := HB_; have BA := BA_; have HS := HS_; clear HB_ BA_ HS_; obtain ⟨Ax0, cx0, ex0⟩ := Kd.R_slice HX0.out; subst ex0; obtain ⟨Ax1, cx1, ex1⟩ := Kd.R_slice HX1.out; subst ex1; obtain ⟨Ax2, cx2, ex2⟩ := Kd.R_slice HX2.out; subst ex2; have HY0 := Aside0.mk (Kd.R_mono (ok' := fun q => w4.heap.size ≤ q ∧ q < w5.heap.size) (Kd.R_bound HX0.out) (fun q hq => ⟨hq.2.1, hq.2.2.1⟩)); have HY1 := Aside0.mk (Kd.R_mono (ok' := fun q => (w4.heap.size ≤ q ∧ q < w5.heap.size) ∧ some q = (.slice Ax1 x1.length cx1 : Value).ownBlock ∧ some q ≠ (.slice Ax2 x2.length cx2 : Value).ownBlock) (Kd.R_bound (Kd.R_tight2 rfl HX1.out)) (fun q hq => ⟨⟨hq.2.1, hq.2.2.1⟩, hq.1⟩)); have HY2 := Aside0.mk (Kd.R_mono (ok' := fun q => (w4.heap.size ≤ q ∧ q < w5.heap.size) ∧ some q = (.slice Ax2 x2.length cx2 : Value).ownBlock ∧ some q ≠ (.slice Ax1 x1.length cx1 : Value).ownBlock) (Kd.R_bound (Kd.R_tight2 rfl HX2.out)) (fun q hq => ⟨⟨hq.2.1, hq.2.2.1⟩, hq.1⟩)); clear HX0 HX1 HX2) | ((with_reducible refine gate_dst (N := 8) rfl ?_); refine box_event ?hg (N := 8) ?hd (cs := #[.slice none 0 0, .slice none 0 0, .slice none 0 0, .int .i64 0, .int .i64 0]) (t := 33) ?hr ?_; (case hd => rfl); (case hg => rfl); (case hr => first | (go_simp; done) | (go_simp; rfl)); intro gx hgx w6 hbox hb; have NX := Aside0.mk ((by rw [hgx]; exact Nat.ne_of_lt (blk_lt (g := ga) (o := .cells #[.slice A0_0 l0_0.length c0_0, .slice A0_1 l0_1.length c0_1, .slice A0_2 l0_2.length c0_2, .int .i64 a0_3, .int .i64 a0_4] 25 (0, 0)) BA.out)) : ga ≠ gx); have GX := Aside0.mk ((by rw [hgx]; exact Nat.le_refl _) : w5.heap.size ≤ gx); have HN56 := Aside0.mk ((by rw [← hgx]; exact blk_lt hbox) : w5.heap.size < w6.heap.size); have BX := Aside0.mk hbox; have HB_ := Aside0.mk (below_step HB.out hb); have BA_ := Aside0.mk (blk_below (g := ga) (o := .cells #[.slice A0_0 l0_0.length c0_0, .slice A0_1 l0_1.length c0_1, .slice A0_2 l0_2.length c0_2, .int .i64 a0_3, .int .i64 a0_4] 25 (0, 0)) BA.out hb); have HS_ := Aside0.mk (Kd.S_below HS.out hb); have HY0_ := Aside0.mk (Kd.R_below HY0.out hb); have HY1_ := Aside0.mk (Kd.R_below HY1.out hb); have HY2_ := Aside0.mk (Kd.R_below HY2.out hb); clear hb hbox hgx; clear HB; clear BA; clear HS; clear HY0; clear HY1; clear HY2; have HB := HB_; have BA := BA_; have HS := HS_; have HY0 := HY0_; have HY1 := HY1_; have HY2 := HY2_; clear HB_ BA_ HS_ HY0_ HY1_ HY2_; have hcx0 : w6.cell? ⟨gx, 0, none⟩ = some (.slice none 0 0) := (blk_cell BX.out 0).trans rfl; have hfx0 := blk_frozen BX.out 0; have hcx1 : w6.cell? ⟨gx, 1, none⟩ = some (.slice none 0 0) := (blk_cell BX.out 1).trans rfl; have hfx1 := blk_frozen BX.out 1; have hcx2 : w6.cell? ⟨gx, 2, none⟩ = some (.slice none 0 0) := (blk_cell BX.out 2).trans rfl; have hfx2 := blk_frozen BX.out 2; have hcx3 : w6.cell? ⟨gx, 3, none⟩ = some (.int .i64 0) := (blk_cell BX.out 3).trans rfl; have hfx3 := blk_frozen BX.out 3; have hcx4 : w6.cell? ⟨gx, 4, none⟩ = some (.int .i64 0) := (blk_cell BX.out 4).trans rfl; have hfx4 := blk_frozen BX.out 4; have hnx := NX.out; have hnx' := NX.out.symm))
        have HB_ : Aside0 (Below w.heap.size w (((((w6.setCell ⟨gx, 0, none⟩ (.slice Ax0 x0.length cx0)).setCell ⟨gx, 1, none⟩ (.slice Ax1 x1.length cx1)).setCell ⟨gx, 2, none⟩ (.slice Ax2 x2.length cx2)).setCell ⟨gx, 3, none⟩ (.int .i64 x3)).setCell ⟨gx, 4, none⟩ (.int .i64 x4))) := Aside0.mk (below_set (j := 4) (v := .int .i64 x4) (below_set (j := 3) (v := .int .i64 x3) (below_set (j := 2) (v := .slice Ax2 x2.length cx2) (below_set (j := 1) (v := .slice Ax1 x1.length cx1) (below_set (j := 0) (v := .slice Ax0 x0.length cx0) HB.out (Nat.le_trans (Nat.le_trans HN4.out HN45.out) GX.out)) (Nat.le_trans (Nat.le_trans HN4.out HN45.out) GX.out)) (Nat.le_trans (Nat.le_trans HN4.out HN45.out) GX.out)) (Nat.le_trans (Nat.le_trans HN4.out HN45.out) GX.out)) (Nat.le_trans (Nat.le_trans HN4.out HN45.out) GX.out))
        have BA_ := Aside0.mk (show (World.heap (((((w6.setCell ⟨gx, 0, none⟩ (.slice Ax0 x0.length cx0)).setCell ⟨gx, 1, none⟩ (.slice Ax1 x1.length cx1)).setCell ⟨gx, 2, none⟩ (.slice Ax2 x2.length cx2)).setCell ⟨gx, 3, none⟩ (.int .i64 x3)).setCell ⟨gx, 4, none⟩ (.int .i64 x4)))[ga]? = some (.cells #[.slice A0_0 l0_0.length c0_0, .slice A0_1 l0_1.length c0_1, .slice A0_2 l0_2.length c0_2, .int .i64 a0_3, .int .i64 a0_4] 25 (0, 0)) from (blk_far (blk_far (blk_far (blk_far (blk_far BA.out NX.out (.slice Ax0 x0.length cx0)) NX.out (.slice Ax1 x1.length cx1)) NX.out (.slice Ax2 x2.length cx2)) NX.out (.int .i64 x3)) NX.out (.int .i64 x4)))
        have BX_ := Aside0.mk (show (World.heap (((((w6.setCell ⟨gx, 0, none⟩ (.slice Ax0 x0.length cx0)).setCell ⟨gx, 1, none⟩ (.slice Ax1 x1.length cx1)).setCell ⟨gx, 2, none⟩ (.slice Ax2 x2.length cx2)).setCell ⟨gx, 3, none⟩ (.int .i64 x3)).setCell ⟨gx, 4, none⟩ (.int .i64 x4)))[gx]? = some (.cells #[.slice Ax0 x0.length cx0, .slice Ax1 x1.length cx1, .slice Ax2 x2.length cx2, .int .i64 x3, .int .i64 x4] 33 (0, 0)) from (blk_put (g := gx) (cs := #[.slice Ax0 x0.length cx0, .slice Ax1 x1.length cx1, .slice Ax2 x2.length cx2, .int .i64 x3, .int .i64 0]) (blk_put (g := gx) (cs := #[.slice Ax0 x0.length cx0, .slice Ax1 x1.length cx1, .slice Ax2 x2.length cx2, .int .i64 0, .int .i64 0]) (blk_put (g := gx) (cs := #[.slice Ax0 x0.length cx0, .slice Ax1 x1.length cx1, .slice none 0 0, .int .i64 0, .int .i64 0]) (blk_put (g := gx) (cs := #[.slice Ax0 x0.length cx0, .slice none 0 0, .slice none 0 0, .int .i64 0, .int .i64 0]) (blk_put (g := gx) (cs := #[.slice none 0 0, .slice none 0 0, .slice none 0 0, .int .i64 0, .int .i64 0]) BX.out 0 (.slice Ax0 x0.length cx0) rfl) 1 (.slice Ax1 x1.length cx1) rfl) 2 (.slice Ax2 x2.length cx2) rfl) 3 (.int .i64 x3) rfl) 4 (.int .i64 x4) rfl))
        have HS_ := Aside0.mk (Kd.S_far (p := ⟨gx, 4, none⟩) (Kd.S_far (p := ⟨gx, 3, none⟩) (Kd.S_far (p := ⟨gx, 2, none⟩) (Kd.S_far (p := ⟨gx, 1, none⟩) (Kd.S_far (p := ⟨gx, 0, none⟩) HS.out (fun q hq => Nat.ne_of_lt (Nat.lt_of_lt_of_le hq (Nat.le_trans HN45.out GX.out))) (.slice Ax0 x0.length cx0)) (fun q hq => Nat.ne_of_lt (Nat.lt_of_lt_of_le hq (Nat.le_trans HN45.out GX.out))) (.slice Ax1 x1.length cx1)) (fun q hq => Nat.ne_of_lt (Nat.lt_of_lt_of_le hq (Nat.le_trans HN45.out GX.out))) (.slice Ax2 x2.length cx2)) (fun q hq => Nat.ne_of_lt (Nat.lt_of_lt_of_le hq (Nat.le_trans HN45.out GX.out))) (.int .i64 x3)) (fun q hq => Nat.ne_of_lt (Nat.lt_of_lt_of_le hq (Nat.le_trans HN45.out GX.out))) (.int .i64 x4))
        have HY0_ := Aside0.mk (Kd.R_far (p := ⟨gx, 4, none⟩) (Kd.R_far (p := ⟨gx, 3, none⟩) (Kd.R_far (p := ⟨gx, 2, none⟩) (Kd.R_far (p := ⟨gx, 1, none⟩) (Kd.R_far (p := ⟨gx, 0, none⟩) HY0.out (fun q hq => Nat.ne_of_lt (Nat.lt_of_lt_of_le hq.2 GX.out)) (.slice Ax0 x0.length cx0)) (fun q hq => Nat.ne_of_lt (Nat.lt_of_lt_of_le hq.2 GX.out)) (.slice Ax1 x1.length cx1)) (fun q hq => Nat.ne_of_lt (Nat.lt_of_lt_of_le hq.2 GX.out)) (.slice Ax2 x2.length cx2)) (fun q hq => Nat.ne_of_lt (Nat.lt_of_lt_of_le hq.2 GX.out)) (.int .i64 x3)) (fun q hq => Nat.ne_of_lt (Nat.lt_of_lt_of_le hq.2 GX.out)) (.int .i64 x4))
        have HY1_ := Aside0.mk (Kd.R_far (p := ⟨gx, 4, none⟩) (Kd.R_far (p := ⟨gx, 3, none⟩) (Kd.R_far (p := ⟨gx, 2, none⟩) (Kd.R_far (p := ⟨gx, 1, none⟩) (Kd.R_far (p := ⟨gx, 0, none⟩) HY1.out (fun q hq => Nat.ne_of_lt (Nat.lt_of_lt_of_le hq.1.2 GX.out)) (.slice Ax0 x0.length cx0)) (fun q hq => Nat.ne_of_lt (Nat.lt_of_lt_of_le hq.1.2 GX.out)) (.slice Ax1 x1.length cx1)) (fun q hq => Nat.ne_of_lt (Nat.lt_of_lt_of_le hq.1.2 GX.out)) (.slice Ax2 x2.length cx2)) (fun q hq => Nat.ne_of_lt (Nat.lt_of_lt_of_le hq.1.2 GX.out)) (.int .i64 x3)) (fun q hq => Nat.ne_of_lt (Nat.lt_of_lt_of_le hq.1.2 GX.out)) (.int .i64 x4))
        have HY2_ := Aside0.mk (Kd.R_far (p := ⟨gx, 4, none⟩) (Kd.R_far (p := ⟨gx, 3, none⟩) (Kd.R_far (p := ⟨gx, 2, none⟩) (Kd.R_far (p := ⟨gx, 1, none⟩) (Kd.R_far (p := ⟨gx, 0, none⟩) HY2.out (fun q hq => Nat.ne_of_lt (Nat.lt_of_lt_of_le hq.1.2 GX.out)) (.slice Ax0 x0.length cx0)) (fun q hq => Nat.ne_of_lt (Nat.lt_of_lt_of_le hq.1.2 GX.out)) (.slice Ax1 x1.length cx1)) (fun q hq => Nat.ne_of_lt (Nat.lt_of_lt_of_le hq.1.2 GX.out)) (.slice Ax2 x2.length cx2)) (fun q hq => Nat.ne_of_lt (Nat.lt_of_lt_of_le hq.1.2 GX.out)) (.int .i64 x3)) (fun q hq => Nat.ne_of_lt (Nat.lt_of_lt_of_le hq.1.2 GX.out)) (.int .i64 x4))
        clear HB
        clear BA
        clear BX
        clear HS
        clear HY0
        clear HY1
        clear HY2
        have HB := HB_
        have BA := BA_
        have BX := BX_
        have HS := HS_
        have HY0 := HY0_
        have HY1 := HY1_
        have HY2 := HY2_
        clear HB_ BA_ BX_ HS_ HY0_ HY1_ HY2_
        clear hca0 hfa0 hca1 hfa1 hca2 hfa2 hca3 hfa3 hca4 hfa4
        obtain ⟨w7, hw7⟩ : ∃ w7, w7 = (((((w6.setCell ⟨gx, 0, none⟩ (.slice Ax0 x0.length cx0)).setCell ⟨gx, 1, none⟩ (.slice Ax1 x1.length cx1)).setCell ⟨gx, 2, none⟩ (.slice Ax2 x2.length cx2)).setCell ⟨gx, 3, none⟩ (.int .i64 x3)).setCell ⟨gx, 4, none⟩ (.int .i64 x4)) := ⟨_, rfl⟩
        rw [← hw7] at HB BA BX HS HY0 HY1 HY2 ⊢
        have HN57 := Aside0.mk ((by rw [hw7]; simpa using HN56.out) : w5.heap.size < w7.heap.size)
        have HN7 := Aside0.mk HB.out.size
        go_wp2_with (first | (go_at_call 22; (with_reducible refine (impl_NeedsOf.calls k Ax0 cx0 x0 Ax1 cx1 x1 Ax2 cx2 x2 x3 x4 a1 s4 g4 _ (Kd.R_reads' HY0.out).2.2 (Kd.R_reads' HY0.out).2.1 (Kd.R_reads' HY1.out).2.2 (Kd.R_reads' HY1.out).2.1 (Kd.R_reads' HY2.out).2.2 (Kd.R_reads' HY2.out).2.1 B4.out).mono ?_); rintro e w8 ⟨v6, rfl, ho, hb⟩; have HO := Aside0.mk ho; have HB_ := Aside0.mk (below_step HB.out hb); have BA_ := Aside0.mk (blk_below (g := ga) (o := .cells #[.slice A0_0 l0_0.length c0_0, .slice A0_1 l0_1.length c0_1, .slice A0_2 l0_2.length c0_2, .int .i64 a0_3, .int .i64 a0_4] 25 (0, 0)) BA.out hb); have BX_ := Aside0.mk (blk_below (g := gx) (o := .cells #[.slice Ax0 x0.length cx0, .slice Ax1 x1.length cx1, .slice Ax2 x2.length cx2, .int .i64 x3, .int .i64 x4] 33 (0, 0)) BX.out hb); have HS_ := Aside0.mk (Kd.S_below HS.out hb); have HY0_ := Aside0.mk (Kd.R_below HY0.out hb); have HY1_ := Aside0.mk (Kd.R_below HY1.out hb); have HY2_ := Aside0.mk (Kd.R_below HY2.out hb); clear hb ho; clear HB; clear BA; clear BX; clear HS; clear HY0; clear HY1; clear HY2; have HB := HB_; have BA := BA_; have BX := BX_; have HS := HS_; have HY0 := HY0_; have HY1 := HY1_; have HY2 := HY2_; clear HB_ BA_ BX_ HS_ HY0_ HY1_ HY2_; obtain ⟨Ag, cg, eg⟩ := Kd.S_slice HO.out; subst eg; have HG := Aside0.mk (Kd.S_mono (ok' := fun q => w7.heap.size ≤ q) (Kd.S_bound HO.out) (fun q hq => hq.2.1)); clear HO))
        go_wp2_with (first | (go_at_call 23; (with_reducible refine (laws_eqInt64SS.calls k Ag cg s4 As cs s2 true _ (Kd.S_reads' HG.out).2.2 (Kd.S_reads' HG.out).2.1 (Kd.S_reads' HS.out).2.2 (Kd.S_reads' HS.out).2.1 B5.out).mono ?_); rintro e w9 ⟨rfl, hd⟩; have hb := DB.out hd; have HB_ := Aside0.mk (below_step HB.out hb); have BA_ := Aside0.mk (blk_below (g := ga) (o := .cells #[.slice A0_0 l0_0.length c0_0, .slice A0_1 l0_1.length c0_1, .slice A0_2 l0_2.length c0_2, .int .i64 a0_3, .int .i64 a0_4] 25 (0, 0)) BA.out hb); have BX_ := Aside0.mk (blk_below (g := gx) (o := .cells #[.slice Ax0 x0.length cx0, .slice Ax1 x1.length cx1, .slice Ax2 x2.length cx2, .int .i64 x3, .int .i64 x4] 33 (0, 0)) BX.out hb); have HS_ := Aside0.mk (Kd.S_below HS.out hb); have HY0_ := Aside0.mk (Kd.R_below HY0.out hb); have HY1_ := Aside0.mk (Kd.R_below HY1.out hb); have HY2_ := Aside0.mk (Kd.R_below HY2.out hb); have HG_ := Aside0.mk (Kd.S_below HG.out hb); clear hb hd; clear HB; clear BA; clear BX; clear HS; clear HY0; clear HY1; clear HY2; clear HG; have HB := HB_; have BA := BA_; have BX := BX_; have HS := HS_; have HY0 := HY0_; have HY1 := HY1_; have HY2 := HY2_; have HG := HG_; clear HB_ BA_ BX_ HS_ HY0_ HY1_ HY2_ HG_))
        try go_wp2
        have HS_ := Aside0.mk (Kd.S_drew HS.out)
        have HY0_ := Aside0.mk (Kd.R_drew HY0.out)
        have HY1_ := Aside0.mk (Kd.R_drew HY1.out)
        have HY2_ := Aside0.mk (Kd.R_drew HY2.out)
        have HG_ := Aside0.mk (Kd.S_drew HG.out)
        have BA_ := Aside0.mk (blk_drew BA.out)
        have BX_ := Aside0.mk (blk_drew BX.out)
        have HB_ := Aside0.mk (below_drew1 HB.out)
        clear HS
        clear HY0
        clear HY1
        clear HY2
        clear HG
        clear BA
        clear BX
        clear HB
        have HS := HS_
        have HY0 := HY0_
        have HY1 := HY1_
        have HY2 := HY2_
        have HG := HG_
        have BA := BA_
        have BX := BX_
        have HB := HB_
        clear HS_ HY0_ HY1_ HY2_ HG_ BA_ BX_ HB_
        refine start_ (n := 5) (S := fun w' => w'.cell? ⟨gx, 0, none⟩ = some (.slice Ax0 x0.length cx0) ∧ w'.cell? ⟨gx, 1, none⟩ = some (.slice Ax1 x1.length cx1) ∧ w'.cell? ⟨gx, 2, none⟩ = some (.slice Ax2 x2.length cx2) ∧ w'.cell? ⟨gx, 3, none⟩ = some (.int .i64 x3) ∧ w'.cell? ⟨gx, 4, none⟩ = some (.int .i64 x4) ∧ w'.cell? ⟨ga, 0, none⟩ = some (.slice A0_0 l0_0.length c0_0) ∧ w'.cell? ⟨ga, 1, none⟩ = some (.slice A0_1 l0_1.length c0_1) ∧ w'.cell? ⟨ga, 2, none⟩ = some (.slice A0_2 l0_2.length c0_2) ∧ w'.cell? ⟨ga, 3, none⟩ = some (.int .i64 a0_3) ∧ w'.cell? ⟨ga, 4, none⟩ = some (.int .i64 a0_4)) (ds := []) #[false, false, false, false, false] (by kernel_rfl) rfl rfl ⟨(blk_cell BX.out 0).trans rfl, (blk_cell BX.out 1).trans rfl, (blk_cell BX.out 2).trans rfl, (blk_cell BX.out 3).trans rfl, (blk_cell BX.out 4).trans rfl, (blk_cell BA.out 0).trans rfl, (blk_cell BA.out 1).trans rfl, (blk_cell BA.out 2).trans rfl, (blk_cell BA.out 3).trans rfl, (blk_cell BA.out 4).trans rfl⟩ (fun hHeld => ?_)
        generalize w9.drew = w10 at HS HY0 HY1 HY2 HG BA BX HB hHeld ⊢
        refine take_ (i := 0) (N := some 45) (v := ?_) (a' := ?_) #[true, false, false, false, false] rfl rfl (by kernel_rfl) (fun _ _ _ h => h) (Or.inl ⟨by rfl, ?_⟩) hHeld ?_ ?_
        rotate_left
        ·rintro w' ⟨s0, s1, s2, s3, s4, s5, s6, s7, s8, s9⟩
         go_simp
         with_reducible rfl
        rotate_left
        ·simp only [Act.put, List.setIfInBounds_toArray, List.set_cons_zero, List.set_cons_succ, i64_w, i32_w]
         rfl
        refine take_ (i := 1) (N := some 46) (v := ?_) (a' := ?_) #[true, true, false, false, false] rfl rfl (by kernel_rfl) (fun _ _ _ h => h) (Or.inl ⟨by rfl, ?_⟩) hHeld ?_ ?_
        rotate_left
        ·rintro w' ⟨s0, s1, s2, s3, s4, s5, s6, s7, s8, s9⟩
         go_simp
         with_reducible rfl
        rotate_left
        ·simp only [Act.put, List.setIfInBounds_toArray, List.set_cons_zero, List.set_cons_succ, i64_w, i32_w]
         rfl
        refine one_ (i := 2) (N := some 47) #[true, true, true, false, false] rfl rfl (by kernel_rfl) (by decide) (fun K hK => ?_)
        refine goes_ Try.func16 (by kernel_rfl) rfl #[.agg #[.slice A0_0 l0_0.length c0_0, .slice A0_1 l0_1.length c0_1, .slice A0_2 l0_2.length c0_2, .int .i64 a0_3, .int .i64 a0_4]] (by rfl) rfl rfl (by (try simp only [List.map_toArray, List.map_cons, List.map_nil]); first | done | rfl | (simp only [List.length_drop, List.length_take]; rfl)) ?_
        with_reducible refine (laws_toHead.calls k A0_0 c0_0 l0_0 A0_1 c0_1 l0_1 A0_2 c0_2 l0_2 a0_3 a0_4 x0 x1 x2 x3 x4 _ (Kd.C_below HR0_0.out HB.out) HC0_0.out (Kd.C_below HR0_1.out HB.out) HC0_1.out (Kd.C_below HR0_2.out HB.out) HC0_2.out B1.out).mono ?_
        rintro e w11 ⟨v0, v1, v2, rfl, ho0, ho1, ho2, hb⟩
        refine ⟨_, rfl, ?_⟩
        have HX0 := Aside0.mk ho0
        have HX1 := Aside0.mk ho1
        have HX2 := Aside0.mk ho2
        have HB_ := Aside0.mk (below_step HB.out hb)
        have BA_ := Aside0.mk (blk_below (g := ga) (o := .cells #[.slice A0_0 l0_0.length c0_0, .slice A0_1 l0_1.length c0_1, .slice A0_2 l0_2.length c0_2, .int .i64 a0_3, .int .i64 a0_4] 25 (0, 0)) BA.out hb)
        have BX_ := Aside0.mk (blk_below (g := gx) (o := .cells #[.slice Ax0 x0.length cx0, .slice Ax1 x1.length cx1, .slice Ax2 x2.length cx2, .int .i64 x3, .int .i64 x4] 33 (0, 0)) BX.out hb)
        have HS_ := Aside0.mk (Kd.S_below HS.out hb)
        have HY0_ := Aside0.mk (Kd.R_below HY0.out hb)
        have HY1_ := Aside0.mk (Kd.R_below HY1.out hb)
        have HY2_ := Aside0.mk (Kd.R_below HY2.out hb)
        have HG_ := Aside0.mk (Kd.S_below HG.out hb)
        clear hb ho0 ho1 ho2
        clear HB
        clear BA
        clear BX
        clear HS
        clear HY0
        clear HY1
        clear HY2
        clear HG
        have HB := HB_
        have BA := BA_
        have BX := BX_
        have HS := HS_
        have HY0 := HY0_
        have HY1 := HY1_
        have HY2 := HY2_
        have HG := HG_
        clear HB_ BA_ BX_ HS_ HY0_ HY1_ HY2_ HG_
        obtain ⟨Ar0, cr0, er0⟩ := Kd.R_slice HX0.out
        subst er0
        obtain ⟨Ar1, cr1, er1⟩ := Kd.R_slice HX1.out
        subst er1
        obtain ⟨Ar2, cr2, er2⟩ := Kd.R_slice HX2.out
        subst er2
        refine hK.out _ _ ⟨(blk_cell BX.out 0).trans rfl, (blk_cell BX.out 1).trans rfl, (blk_cell BX.out 2).trans rfl, (blk_cell BX.out 3).trans rfl, (blk_cell BX.out 4).trans rfl, (blk_cell BA.out 0).trans rfl, (blk_cell BA.out 1).trans rfl, (blk_cell BA.out 2).trans rfl, (blk_cell BA.out 3).trans rfl, (blk_cell BA.out 4).trans rfl⟩ (fun hHeld => ?_)
        clear hK K
        refine norm_ (a' := ?_) ?_ ?_
        rotate_left
        ·show Act.put _ (some 47) _ = _
         simp only [Act.put, List.setIfInBounds_toArray, List.set_cons_zero, List.set_cons_succ, i64_w, i32_w]
         rfl
        refine one_ (i := 3) (N := some 48) #[true, true, true, true, false] rfl rfl (by kernel_rfl) (by decide) (fun K hK => ?_)
        refine goes_ Try.func19 (by kernel_rfl) rfl #[.agg #[.slice Ax0 x0.length cx0, .slice Ax1 x1.length cx1, .slice Ax2 x2.length cx2, .int .i64 x3, .int .i64 x4], .agg #[.slice Ar0 x0.length cr0, .slice Ar1 x1.length cr1, .slice Ar2 x2.length cr2, .int .i64 x3, .int .i64 x4]] (by rfl) rfl rfl (by (try simp only [List.map_toArray, List.map_cons, List.map_nil]); first | done | rfl | (simp only [List.length_drop, List.length_take]; rfl)) ?_
        with_reducible refine (laws_eqHead.calls k Ax0 cx0 x0 Ax1 cx1 x1 Ax2 cx2 x2 x3 x4 Ar0 cr0 x0 Ar1 cr1 x1 Ar2 cr2 x2 x3 x4 true _ (Kd.R_reads' HY0.out).2.2 (Kd.R_reads' HY0.out).2.1 (Kd.R_reads' HY1.out).2.2 (Kd.R_reads' HY1.out).2.1 (Kd.R_reads' HY2.out).2.2 (Kd.R_reads' HY2.out).2.1 (Kd.R_reads' HX0.out).2.2 (Kd.R_reads' HX0.out).2.1 (Kd.R_reads' HX1.out).2.2 (Kd.R_reads' HX1.out).2.1 (Kd.R_reads' HX2.out).2.2 (Kd.R_reads' HX2.out).2.1 B7.out).mono ?_
        rintro e w12 ⟨rfl, hb⟩
        refine ⟨_, rfl, ?_⟩
        have HB_ := Aside0.mk (below_step HB.out hb)
        have BA_ := Aside0.mk (blk_below (g := ga) (o := .cells #[.slice A0_0 l0_0.length c0_0, .slice A0_1 l0_1.length c0_1, .slice A0_2 l0_2.length c0_2, .int .i64 a0_3, .int .i64 a0_4] 25 (0, 0)) BA.out hb)
        have BX_ := Aside0.mk (blk_below (g := gx) (o := .cells #[.slice Ax0 x0.length cx0, .slice Ax1 x1.length cx1, .slice Ax2 x2.length cx2, .int .i64 x3, .int .i64 x4] 33 (0, 0)) BX.out hb)
        have HS_ := Aside0.mk (Kd.S_below HS.out hb)
        have HY0_ := Aside0.mk (Kd.R_below HY0.out hb)
        have HY1_ := Aside0.mk (Kd.R_below HY1.out hb)
        have HY2_ := Aside0.mk (Kd.R_below HY2.out hb)
        have HG_ := Aside0.mk (Kd.S_below HG.out hb)
        clear hb HX0 HX1 HX2
        clear HB
        clear BA
        clear BX
        clear HS
        clear HY0
        clear HY1
        clear HY2
        clear HG
        have HB := HB_
        have BA := BA_
        have BX := BX_
        have HS := HS_
        have HY0 := HY0_
        have HY1 := HY1_
        have HY2 := HY2_
        have HG := HG_
        clear HB_ BA_ BX_ HS_ HY0_ HY1_ HY2_ HG_
        refine hK.out _ _ ⟨(blk_cell BX.out 0).trans rfl, (blk_cell BX.out 1).trans rfl, (blk_cell BX.out 2).trans rfl, (blk_cell BX.out 3).trans rfl, (blk_cell BX.out 4).trans rfl, (blk_cell BA.out 0).trans rfl, (blk_cell BA.out 1).trans rfl, (blk_cell BA.out 2).trans rfl, (blk_cell BA.out 3).trans rfl, (blk_cell BA.out 4).trans rfl⟩ (fun hHeld => ?_)
        clear hK K
        refine norm_ (a' := ?_) ?_ ?_
        rotate_left
        ·show Act.put _ (some 48) _ = _
         simp only [Act.put, List.setIfInBounds_toArray, List.set_cons_zero, List.set_cons_succ, i64_w, i32_w]
         rfl
        refine pure_ (i := 4) (N := some 49) (v := ?_) (a' := ?_) #[true, true, true, true, true] rfl rfl (by kernel_rfl) (fun _ _ _ h => h) (Or.inl ⟨by rfl, ?_⟩) ?_ ?_
        rotate_left
        ·intro w'
         go_simp
         with_reducible rfl
        rotate_left
        ·simp only [Act.put, List.setIfInBounds_toArray, List.set_cons_zero, List.set_cons_succ, i64_w, i32_w]
         rfl
        refine done_ (by kernel_rfl) ?_
        clear hcx0 hfx0
        clear hcx1 hfx1
        clear hcx2 hfx2
        clear hcx3 hfx3
        clear hcx4 hfx4
        have hcx0 : w12.cell? ⟨gx, 0, none⟩ = some (.slice Ax0 x0.length cx0) := (blk_cell BX.out 0).trans rfl
        have hfx0 := blk_frozen BX.out 0
        have hcx1 : w12.cell? ⟨gx, 1, none⟩ = some (.slice Ax1 x1.length cx1) := (blk_cell BX.out 1).trans rfl
        have hfx1 := blk_frozen BX.out 1
        have hcx2 : w12.cell? ⟨gx, 2, none⟩ = some (.slice Ax2 x2.length cx2) := (blk_cell BX.out 2).trans rfl
        have hfx2 := blk_frozen BX.out 2
        have hcx3 : w12.cell? ⟨gx, 3, none⟩ = some (.int .i64 x3) := (blk_cell BX.out 3).trans rfl
        have hfx3 := blk_frozen BX.out 3
        have hcx4 : w12.cell? ⟨gx, 4, none⟩ = some (.int .i64 x4) := (blk_cell BX.out 4).trans rfl
        have hfx4 := blk_frozen BX.out 4
        go_wp2_with (first | (go_at_call 24; (with_reducible refine (laws_markHead.calls k (fun q => w4.heap.size ≤ q ∧ q < w5.heap.size) _ x0 (fun q => (w4.heap.size ≤ q ∧ q < w5.heap.size) ∧ some q = (.slice Ax1 x1.length cx1 : Value).ownBlock ∧ some q ≠ (.slice Ax2 x2.length cx2 : Value).ownBlock) _ x1 (fun q => (w4.heap.size ≤ q ∧ q < w5.heap.size) ∧ some q = (.slice Ax2 x2.length cx2 : Value).ownBlock ∧ some q ≠ (.slice Ax1 x1.length cx1 : Value).ownBlock) _ x2 x3 x4 1 k8 l80 l81 l82 w _ HB.out (Kd.R_lower HY0.out HN4.out) (Kd.R_lower HY1.out HN4.out) (fun q h1 h2 => absurd h2.2.1 h1.2.2) (Kd.R_lower HY2.out HN4.out) (fun q h1 h2 => absurd h2.2.1 h1.2.2) B8.out).mono ?_); rintro e w13 ⟨rfl, hy0, hy1, hy2, hb, hk⟩; have z1 := HN57.out; have z2 := HA4.out; have HB_ := Aside0.mk hb; have BA_ := Aside0.mk ((hk.2 ga (blk_lt BA.out) (fun hs => by rcases hs with h | h | h; exact absurd h.1 (by omega); exact absurd h.1.1 (by omega); exact absurd h.1.1 (by omega))).trans BA.out); have HS_ := Aside0.mk (Kd.S_step HS.out (fun q hq hlt => hk.2 q hlt (fun hs => by rcases hs with h | h | h; exact absurd h.1 (by omega); exact absurd h.1.1 (by omega); exact absurd h.1.1 (by omega)))); have HG_ := Aside0.mk (Kd.S_step HG.out (fun q hq hlt => hk.2 q hlt (fun hs => by rcases hs with h | h | h; exact absurd h.2 (by omega); exact absurd h.1.2 (by omega); exact absurd h.1.2 (by omega)))); clear hy0 hy1 hy2 hb hk z1 z2 HY0 HY1 HY2 BX; clear HB; clear BA; clear HS; clear HG; have HB := HB_; have BA := BA_; have HS := HS_; have HG := HG_; clear HB_ BA_ HS_ HG_))
        go_wp2_with (first | (go_at_call 23; (with_reducible refine (laws_eqInt64SS.calls k Ag cg s4 As cs s2 true _ (Kd.S_reads' HG.out).2.2 (Kd.S_reads' HG.out).2.1 (Kd.S_reads' HS.out).2.2 (Kd.S_reads' HS.out).2.1 B5.out).mono ?_); rintro e w14 ⟨rfl, hd⟩; have hb := DB.out hd; have HB_ := Aside0.mk (below_step HB.out hb); have BA_ := Aside0.mk (blk_below (g := ga) (o := .cells #[.slice A0_0 l0_0.length c0_0, .slice A0_1 l0_1.length c0_1, .slice A0_2 l0_2.length c0_2, .int .i64 a0_3, .int .i64 a0_4] 25 (0, 0)) BA.out hb); have HS_ := Aside0.mk (Kd.S_below HS.out hb); have HG_ := Aside0.mk (Kd.S_below HG.out hb); clear hb hd; clear HB; clear BA; clear HS; clear HG; have HB := HB_; have BA := BA_; have HS := HS_; have HG := HG_; clear HB_ BA_ HS_ HG_))
        go_wp2_with (first | (go_at_call 25; (with_reducible refine (laws_markInt64SS.calls k (fun q => w7.heap.size ≤ q) _ s4 1 t11 l10 w _ HB.out (Kd.S_lower HG.out HN7.out) B10.out).mono ?_); rintro e w15 ⟨rfl, hy, hb, hk⟩; have z1 := HN57.out; have z2 := HA4.out; have z3 := HN45.out; have HB_ := Aside0.mk hb; have BA_ := Aside0.mk ((hk.2 ga (blk_lt BA.out) (fun hs => by omega)).trans BA.out); have HS_ := Aside0.mk (Kd.S_step HS.out (fun q hq hlt => hk.2 q hlt (fun hs => by omega))); have HG_ := Aside0.mk hy; clear hy hb hk z1 z2 z3; clear HB; clear BA; clear HS; clear HG; have HB := HB_; have BA := BA_; have HS := HS_; have HG := HG_; clear HB_ BA_ HS_ HG_))
        have HL := Aside0.mk (Kd.S_reads' HG.out).1
        rw [HL.out]
        go_wp2_with (first | (go_at_call 26; (with_reducible refine (laws_heldInt64SS.calls k Ag cg l10 1 t11 _ (Kd.S_reads' HG.out).2.2 (by have z_ := (Kd.S_reads' HG.out).2.1; rw [HL.out] at z_; exact z_) B11.out).mono ?_); rintro e w16 ⟨rfl, hd⟩; have hb := DB.out hd; have HB_ := Aside0.mk (below_step HB.out hb); have BA_ := Aside0.mk (blk_below (g := ga) (o := .cells #[.slice A0_0 l0_0.length c0_0, .slice A0_1 l0_1.length c0_1, .slice A0_2 l0_2.length c0_2, .int .i64 a0_3, .int .i64 a0_4] 25 (0, 0)) BA.out hb); have HS_ := Aside0.mk (Kd.S_below HS.out hb); have HG_ := Aside0.mk (Kd.S_below HG.out hb); clear hb hd; clear HB; clear BA; clear HS; clear HG; have HB := HB_; have BA := BA_; have HS := HS_; have HG := HG_; clear HB_ BA_ HS_ HG_; have hca0 : w16.cell? ⟨ga, 0, none⟩ = some (.slice A0_0 l0_0.length c0_0) := (blk_cell BA.out 0).trans rfl; have hfa0 := blk_frozen BA.out 0; have hca1 : w16.cell? ⟨ga, 1, none⟩ = some (.slice A0_1 l0_1.length c0_1) := (blk_cell BA.out 1).trans rfl; have hfa1 := blk_frozen BA.out 1; have hca2 : w16.cell? ⟨ga, 2, none⟩ = some (.slice A0_2 l0_2.length c0_2) := (blk_cell BA.out 2).trans rfl; have hfa2 := blk_frozen BA.out 2; have hca3 : w16.cell? ⟨ga, 3, none⟩ = some (.int .i64 a0_3) := (blk_cell BA.out 3).trans rfl; have hfa3 := blk_frozen BA.out 3; have hca4 : w16.cell? ⟨ga, 4, none⟩ = some (.int .i64 a0_4) := (blk_cell BA.out 4).trans rfl; have hfa4 := blk_frozen BA.out 4))
        go_wp2_with (first | (go_at_call 16; (with_reducible refine (laws_toHead.calls k A0_0 c0_0 l0_0 A0_1 c0_1 l0_1 A0_2 c0_2 l0_2 a0_3 a0_4 x0 x1 x2 x3 x4 _ (Kd.C_below HR0_0.out HB.out) HC0_0.out (Kd.C_below HR0_1.out HB.out) HC0_1.out (Kd.C_below HR0_2.out HB.out) HC0_2.out B1.out).mono ?_); rintro e w17 ⟨v0, v1, v2, rfl, ho0, ho1, ho2, hb⟩; have HX0 := Aside0.mk ho0; have HX1 := Aside0.mk ho1; have HX2 := Aside0.mk ho2; have HB_ := Aside0.mk (below_step HB.out hb); have BA_ := Aside0.mk (blk_below (g := ga) (o := .cells #[.slice A0_0 l0_0.length c0_0, .slice A0_1 l0_1.length c0_1, .slice A0_2 l0_2.length c0_2, .int .i64 a0_3, .int .i64 a0_4] 25 (0, 0)) BA.out hb); have HS_ := Aside0.mk (Kd.S_below HS.out hb); have HG_ := Aside0.mk (Kd.S_below HG.out hb); clear hb ho0 ho1 ho2; clear HB; clear BA; clear HS; clear HG; have HB := HB_; have BA := BA_; have HS := HS_; have HG := HG_; clear HB_ BA_ HS_ HG_; obtain ⟨Ar0, cr0, er0⟩ := Kd.R_slice HX0.out; subst er0; obtain ⟨Ar1, cr1, er1⟩ := Kd.R_slice HX1.out; subst er1; obtain ⟨Ar2, cr2, er2⟩ := Kd.R_slice HX2.out; subst er2))
        go_wp2_with (first | (go_at_call 22; (with_reducible refine (impl_NeedsOf.calls k Ar0 cr0 x0 Ar1 cr1 x1 Ar2 cr2 x2 x3 x4 a1 s4 g4 _ (Kd.R_reads' HX0.out).2.2 (Kd.R_reads' HX0.out).2.1 (Kd.R_reads' HX1.out).2.2 (Kd.R_reads' HX1.out).2.1 (Kd.R_reads' HX2.out).2.2 (Kd.R_reads' HX2.out).2.1 B4.out).mono ?_); rintro e w18 ⟨v6, rfl, ho, hb⟩; have HO := Aside0.mk ho; have HB_ := Aside0.mk (below_step HB.out hb); have BA_ := Aside0.mk (blk_below (g := ga) (o := .cells #[.slice A0_0 l0_0.length c0_0, .slice A0_1 l0_1.length c0_1, .slice A0_2 l0_2.length c0_2, .int .i64 a0_3, .int .i64 a0_4] 25 (0, 0)) BA.out hb); have HS_ := Aside0.mk (Kd.S_below HS.out hb); have HG_ := Aside0.mk (Kd.S_below HG.out hb); clear hb ho HX0 HX1 HX2; clear HB; clear BA; clear HS; clear HG; have HB := HB_; have BA := BA_; have HS := HS_; have HG := HG_; clear HB_ BA_ HS_ HG_; obtain ⟨Ah, ch, eh⟩ := Kd.S_slice HO.out; subst eh))
        go_wp2_with (first | (go_at_call 23; (with_reducible refine (laws_eqInt64SS.calls k Ah ch s4 As cs s2 true _ (Kd.S_reads' HO.out).2.2 (Kd.S_reads' HO.out).2.1 (Kd.S_reads' HS.out).2.2 (Kd.S_reads' HS.out).2.1 B5.out).mono ?_); rintro e w19 ⟨rfl, hd⟩; have hb := DB.out hd; have HB_ := Aside0.mk (below_step HB.out hb); have BA_ := Aside0.mk (blk_below (g := ga) (o := .cells #[.slice A0_0 l0_0.length c0_0, .slice A0_1 l0_1.length c0_1, .slice A0_2 l0_2.length c0_2, .int .i64 a0_3, .int .i64 a0_4] 25 (0, 0)) BA.out hb); have HS_ := Aside0.mk (Kd.S_below HS.out hb); have HG_ := Aside0.mk (Kd.S_below HG.out hb); clear hb hd HO; clear HB; clear BA; clear HS; clear HG; have HB := HB_; have BA := BA_; have HS := HS_; have HG := HG_; clear HB_ BA_ HS_ HG_))
        go_wp2_with (first | (go_at_call 26; (with_reducible refine (laws_heldInt64SS.calls k Ag cg l10 1 t11 _ (Kd.S_reads' HG.out).2.2 (by have z_ := (Kd.S_reads' HG.out).2.1; rw [HL.out] at z_; exact z_) B11.out).mono ?_); rintro e w20 ⟨rfl, hd⟩; have hb := DB.out hd; have HB_ := Aside0.mk (below_step HB.out hb); have BA_ := Aside0.mk (blk_below (g := ga) (o := .cells #[.slice A0_0 l0_0.length c0_0, .slice A0_1 l0_1.length c0_1, .slice A0_2 l0_2.length c0_2, .int .i64 a0_3, .int .i64 a0_4] 25 (0, 0)) BA.out hb); have HS_ := Aside0.mk (Kd.S_below HS.out hb); have HG_ := Aside0.mk (Kd.S_below HG.out hb); clear hb hd; clear HB; clear BA; clear HS; clear HG; have HB := HB_; have BA := BA_; have HS := HS_; have HG := HG_; clear HB_ BA_ HS_ HG_))
        go_ret
        exact ⟨by first | rfl | (simp; done) | (simp [*]; done) | (simp [Int.tdiv_eq_ediv_of_nonneg, *]; done), by repeat (first | (with_reducible first | exact HB.out | apply below_alloc | apply pw_below_drewN | apply below_drew1) | exact HB.out)⟩
       ·rw [if_neg c12] at h
        exact absurd h (by simp)
    ·rw [if_neg c7] at h
     exact absurd h (by simp)
   ·rw [if_neg c6] at h
    exact absurd h (by simp)
  ·rw [if_neg c5] at h
   exact absurd h (by simp)

def laws_FnExactNeedsOf.Pure : Prop := ∀ (l0_0 : List (S156)) (l0_1 : List Int) (l0_2 : List Int) (a0_3 : Int) (a0_4 : Int) (a1 : Int), Opn.WfL W156 l0_0 → Opn.WfL (fun a_ => (Lit.int .i64 a_).wf = true) l0_1 → Opn.WfL (fun a_ => (Lit.int .i64 a_).wf = true) l0_2 → (Lit.int .i64 a0_3).wf = true → (Lit.int .i64 a0_4).wf = true → (Lit.int .i64 a1).wf = true → ∃ k, laws_FnExactNeedsOf.f k l0_0 l0_1 l0_2 a0_3 a0_4 a1 = some true
theorem laws_FnExactNeedsOf.walk (P : laws_FnExactNeedsOf.Pure) (A0_0 : Option Addr) (c0_0 : Nat) (l0_0 : List (S156)) (A0_1 : Option Addr) (c0_1 : Nat) (l0_1 : List Int) (A0_2 : Option Addr) (c0_2 : Nat) (l0_2 : List Int) (a0_3 : Int) (a0_4 : Int) (a1 : Int) (w : World) (hr0_0 : Kd.C k156 w A0_0 l0_0.length l0_0) (hc0_0 : l0_0.length ≤ c0_0) (hr0_1 : Kd.C (Kd.int .i64) w A0_1 l0_1.length l0_1) (hc0_1 : l0_1.length ≤ c0_1) (hr0_2 : Kd.C (Kd.int .i64) w A0_2 l0_2.length l0_2) (hc0_2 : l0_2.length ≤ c0_2) (w0_0 : Opn.WfL W156 l0_0) (w0_1 : Opn.WfL (fun a_ => (Lit.int .i64 a_).wf = true) l0_1) (w0_2 : Opn.WfL (fun a_ => (Lit.int .i64 a_).wf = true) l0_2) (w0_3 : (Lit.int .i64 a0_3).wf = true) (w0_4 : (Lit.int .i64 a0_4).wf = true) (w1 : (Lit.int .i64 a1).wf = true) :
  Calls Try.prog 4 #[.agg #[.slice A0_0 l0_0.length c0_0, .slice A0_1 l0_1.length c0_1, .slice A0_2 l0_2.length c0_2, .int .i64 a0_3, .int .i64 a0_4], .int .i64 a1] w fun e w' => e = .returned (.bool true) ∧ Below w.heap.size w w' := by
 obtain ⟨k, h⟩ := P l0_0 l0_1 l0_2 a0_3 a0_4 a1 w0_0 w0_1 w0_2 w0_3 w0_4 w1
 refine (laws_FnExactNeedsOf.calls k A0_0 c0_0 l0_0 A0_1 c0_1 l0_1 A0_2 c0_2 l0_2 a0_3 a0_4 a1 true w hr0_0 hc0_0 hr0_1 hc0_1 hr0_2 hc0_2 h).mono ?_
 rintro e w' ⟨rfl, hd⟩
 exact ⟨rfl, hd⟩

end Go.Proofs.Ytagmaflnnaonjaa.P
/- A test at each of some numbers that follow one another. -/
namespace Go.Proofs.Ytagmaflnnaonjaa.P
open Go.RowKit Go.Proofs.Ytagmaflnnaonjaa.P Go.Proofs.YtagmaflnnaonjaaW.PrintWords Go.Proofs.YtagmaflnnaonjaaW.PrintLast Go.Proofs.YtagmaflnnaonjaaW.PrintMore
set_option linter.unusedVariables false
set_option linter.unusedSimpArgs false
def upTo (p : Nat → Bool) : Nat → Nat → Bool
  | 0, _ => true
  | d + 1, i => p i && upTo p d (i + 1)
end Go.Proofs.Ytagmaflnnaonjaa.P
/- Numbers in a range that rise. -/
namespace Go.Proofs.Ytagmaflnnaonjaa.P
open Go.RowKit Go.Proofs.Ytagmaflnnaonjaa.P Go.Proofs.YtagmaflnnaonjaaW.PrintWords Go.Proofs.YtagmaflnnaonjaaW.PrintLast Go.Proofs.YtagmaflnnaonjaaW.PrintMore
set_option linter.unusedVariables false
set_option linter.unusedSimpArgs false
def riseOk (l : List Int) (lo hi : Int) (i : Nat) : Bool := decide (lo ≤ rd l i ∧ rd l i ≤ hi) && (decide (i = 0) || decide (rd l ((i - 1 : Nat) : Int) < rd l i))
def rises (l : List Int) (lo hi : Int) : Bool := upTo (riseOk l lo hi) l.length 0

end Go.Proofs.Ytagmaflnnaonjaa.P
/- What is asked of a head. -/
namespace Go.Proofs.Ytagmaflnnaonjaa.P
open Go.RowKit Go.Proofs.Ytagmaflnnaonjaa.P Go.Proofs.YtagmaflnnaonjaaW.PrintWords Go.Proofs.YtagmaflnnaonjaaW.PrintLast Go.Proofs.YtagmaflnnaonjaaW.PrintMore
set_option linter.unusedVariables false
set_option linter.unusedSimpArgs false
def cuOk (cs : List S154) (i : Nat) : Bool := decide (1 ≤ (rd_T154 cs i).f0 ∧ (rd_T154 cs i).f0 ≤ 100) && decide (1 ≤ (rd_T154 cs i).f1 ∧ (rd_T154 cs i).f1 ≤ 1000000)
def hdOk (cs : List S154) (fc st : List Int) (x y : Int) : Bool :=
  decide (1 ≤ (cs.length : Int) ∧ (cs.length : Int) ≤ 5) && (decide ((fc.length : Int) ≤ 60) && (decide ((st.length : Int) ≤ 8) && (rises st 0 (wrap64 ((fc.length : Int) - 1)) && (upTo (cuOk cs) cs.length 0 && (impl_areWithin.all 0 100 fc && (decide (0 ≤ x ∧ x ≤ 10000) && decide (0 ≤ y ∧ y ≤ 10000)))))))

end Go.Proofs.Ytagmaflnnaonjaa.P
/- How far a cutter lasts, plainly. -/
namespace Go.Proofs.Ytagmaflnnaonjaa.P
open Go.RowKit Go.Proofs.Ytagmaflnnaonjaa.P Go.Proofs.YtagmaflnnaonjaaW.PrintWords Go.Proofs.YtagmaflnnaonjaaW.PrintLast Go.Proofs.YtagmaflnnaonjaaW.PrintMore
set_option linter.unusedVariables false
set_option linter.unusedSimpArgs false
def reachGo (ax lim : Int) (fc : List Int) : Nat → Nat → Int → Nat
  | 0, i, _ => i
  | d + 1, i, s => if wrap64 (s + wrap64 (ax * rd fc (i : Int))) > lim then i else reachGo ax lim fc d (i + 1) (wrap64 (s + wrap64 (ax * rd fc (i : Int))))
def reachOf (cs : List S154) (fc : List Int) (a b : Nat) (s : Int) : Nat := reachGo (rd_T154 cs (a : Int)).f0 (rd_T154 cs (a : Int)).f1 fc (fc.length - b) b s
end Go.Proofs.Ytagmaflnnaonjaa.P
/- The stints of a cutter, plainly. -/
namespace Go.Proofs.Ytagmaflnnaonjaa.P
open Go.RowKit Go.Proofs.Ytagmaflnnaonjaa.P Go.Proofs.YtagmaflnnaonjaaW.PrintWords Go.Proofs.YtagmaflnnaonjaaW.PrintLast Go.Proofs.YtagmaflnnaonjaaW.PrintMore
set_option linter.unusedVariables false
set_option linter.unusedSimpArgs false
theorem reachGo_in (ax lim : Int) (fc : List Int) : ∀ (d i : Nat) (s : Int), i ≤ reachGo ax lim fc d i s ∧ reachGo ax lim fc d i s ≤ i + d
  | 0, i, s => by simp [reachGo]
  | d + 1, i, s => by
    have := reachGo_in ax lim fc d (i + 1) (wrap64 (s + wrap64 (ax * rd fc (i : Int))))
    simp only [reachGo]
    split <;> omega
theorem reachOf_in (cs : List S154) (fc : List Int) (a b : Nat) (s : Int) (hb : b ≤ fc.length) : b ≤ reachOf cs fc a b s ∧ reachOf cs fc a b s ≤ fc.length := by
  unfold reachOf
  have := reachGo_in (rd_T154 cs (a : Int)).f0 (rd_T154 cs (a : Int)).f1 fc (fc.length - b) b s
  omega
def nextOf (st : List Int) (b t : Int) : Nat → Nat → Int → Int
  | 0, _, c => c
  | d + 1, i, c => nextOf st b t d (i + 1) (if rd st (i : Int) > b then (if rd st (i : Int) ≤ t then rd st (i : Int) else c) else c)
theorem nextOf_in (st : List Int) (b t : Int) : ∀ (d i : Nat) (c : Int), nextOf st b t d i c = c ∨ (b < nextOf st b t d i c ∧ nextOf st b t d i c ≤ t)
  | 0, i, c => Or.inl rfl
  | d + 1, i, c => by
    simp only [nextOf]
    by_cases h1 : rd st (i : Int) > b
    · by_cases h2 : rd st (i : Int) ≤ t
      · rw [if_pos h1, if_pos h2]
        rcases nextOf_in st b t d (i + 1) (rd st (i : Int)) with h | h
        · right; rw [h]; omega
        · exact Or.inr h
      · rw [if_pos h1, if_neg h2]
        exact nextOf_in st b t d (i + 1) c
    · rw [if_neg h1]
      exact nextOf_in st b t d (i + 1) c
def stintsGo (cs : List S154) (fc st : List Int) (a : Nat) : Nat → Nat → List (List Int) → List (List Int) × Bool
  | 0, _, _ => ([], false)
  | d + 1, b, acc => if ((reachOf cs fc a b 0 : Nat) : Int) = (fc.length : Int) then (acc, true) else
      if nextOf st b (reachOf cs fc a b 0 : Nat) st.length 0 (-1) < 0 then ([], false) else
      stintsGo cs fc st a d (nextOf st b (reachOf cs fc a b 0 : Nat) st.length 0 (-1)).toNat (acc ++ [[(b : Int), ((reachOf cs fc a b 0 : Nat) : Int)]])
theorem stintsGo_len (cs : List S154) (fc st : List Int) (a : Nat) : ∀ (d b : Nat) (acc : List (List Int)), (stintsGo cs fc st a d b acc).1.length ≤ acc.length + d
  | 0, _, _ => by simp [stintsGo]
  | d + 1, b, acc => by
    simp only [stintsGo]
    split
    · simp
    · split
      · simp
      · have := stintsGo_len cs fc st a d (nextOf st b (reachOf cs fc a b 0 : Nat) st.length 0 (-1)).toNat (acc ++ [[(b : Int), ((reachOf cs fc a b 0 : Nat) : Int)]])
        simp only [List.length_append, List.length_cons, List.length_nil] at this
        omega
def stints (cs : List S154) (fc st : List Int) (a : Nat) : List (List Int) × Bool := stintsGo cs fc st a (fc.length + 1) 0 []
theorem stints_len (cs : List S154) (fc st : List Int) (a : Nat) : (stints cs fc st a).1.length ≤ fc.length + 1 := by
  have := stintsGo_len cs fc st a (fc.length + 1) 0 []
  simpa [stints] using this

end Go.Proofs.Ytagmaflnnaonjaa.P
/- The bound on a head's cost, plainly. -/
namespace Go.Proofs.Ytagmaflnnaonjaa.P
open Go.RowKit Go.Proofs.Ytagmaflnnaonjaa.P Go.Proofs.YtagmaflnnaonjaaW.PrintWords Go.Proofs.YtagmaflnnaonjaaW.PrintLast Go.Proofs.YtagmaflnnaonjaaW.PrintMore
set_option linter.unusedVariables false
set_option linter.unusedSimpArgs false
theorem hdOk_in {cs : List S154} {fc st : List Int} {x y : Int} (h : hdOk cs fc st x y = true) : cs.length ≤ 5 ∧ fc.length ≤ 60 ∧ st.length ≤ 8 ∧ (0 ≤ x ∧ x ≤ 10000) ∧ (0 ≤ y ∧ y ≤ 10000) := by
  unfold hdOk at h
  simp only [Bool.and_eq_true, decide_eq_true_eq] at h
  obtain ⟨h1, h2, h3, _, _, _, h4, h5⟩ := h
  exact ⟨by omega, by omega, by omega, h4, h5⟩

end Go.Proofs.Ytagmaflnnaonjaa.P
/- Plain facts on numbers and lists that every loop's lemma uses. -/
namespace Go.Proofs.Ytagmaflnnaonjaa.P
open Go.RowKit Go.Proofs.Ytagmaflnnaonjaa.P Go.Proofs.YtagmaflnnaonjaaW.PrintWords Go.Proofs.YtagmaflnnaonjaaW.PrintLast Go.Proofs.YtagmaflnnaonjaaW.PrintMore
set_option linter.unusedVariables false
set_option linter.unusedSimpArgs false
theorem w64 (x : Int) (h1 : -9223372036854775808 ≤ x) (h2 : x ≤ 9223372036854775807) : wrap64 x = x := by unfold wrap64; omega
theorem w64s (i : Nat) (h : i < 9223372036854775807) : wrap64 ((i : Int) + 1) = ((i + 1 : Nat) : Int) := by unfold wrap64; omega
theorem rd_at (l : List Int) (i : Nat) (h : i < l.length) : rd l (i : Int) = l[i] := by
  unfold rd
  rw [Int.toNat_natCast, List.getD_eq_getElem?_getD, List.getElem?_eq_getElem h]
  rfl
theorem drop_at (l : List Int) (i : Nat) (h : i < l.length) : l.drop i = rd l (i : Int) :: l.drop (i + 1) := by
  rw [rd_at l i h, List.drop_eq_getElem_cons h]
theorem fill_step {α : Type} (l acc : List α) (i : Nat) (x : α) (hi : i < l.length) (hl : acc.length = l.length) (h : acc.take i = l.take i) (hx : l[i] = x) : (acc.set i x).take (i + 1) = l.take (i + 1) := by
  subst hx
  have hi2 : i < (acc.set i l[i]).length := by rw [List.length_set]; omega
  rw [List.take_succ_eq_append_getElem hi2, List.take_succ_eq_append_getElem hi, List.getElem_set_self, List.take_set_of_le (Nat.le_refl i), h]
def iota (m : Int) : Nat → List Int
  | 0 => []
  | n + 1 => m :: iota (m + 1) n
theorem iota_length (m : Int) (n : Nat) : (iota m n).length = n := by
  induction n generalizing m with
  | zero => rfl
  | succ n ih => simp [iota, ih]
theorem iota_get (m : Int) (n i : Nat) (h : i < (iota m n).length) : (iota m n)[i] = m + i := by
  induction n generalizing m i with
  | zero => rw [iota_length] at h; omega
  | succ n ih =>
    cases i with
    | zero => simp [iota]
    | succ i =>
      have h2 : i < (iota (m + 1) n).length := by rw [iota_length] at h ⊢; omega
      simp only [iota, List.getElem_cons_succ]
      rw [ih (m + 1) i h2]
      omega
theorem bind_some_ {α β : Type} (a : α) (f : α → Option β) : (some a).bind f = f a := rfl
theorem ite_tt (b r : Bool) : (if b = true then some r else some false) = some (b && r) := by cases b <;> rfl
theorem ite_ff (p : Prop) [Decidable p] (r : Bool) : (if p then some false else some r) = some (!decide p && r) := by by_cases h : p <;> simp [h]
theorem ite_pp (p : Prop) [Decidable p] (r : Bool) : (if p then some r else some false) = some (decide p && r) := by by_cases h : p <;> simp [h]
theorem not_ge_dec (a b : Int) : (!decide (a ≥ b)) = decide (a < b) := by by_cases h : a < b <;> simp [h] <;> omega

end Go.Proofs.Ytagmaflnnaonjaa.P
/- Numbers in a range, as the program asks it of a list. -/
namespace Go.Proofs.Ytagmaflnnaonjaa.P
open Go.RowKit Go.Proofs.Ytagmaflnnaonjaa.P Go.Proofs.YtagmaflnnaonjaaW.PrintWords Go.Proofs.YtagmaflnnaonjaaW.PrintLast Go.Proofs.YtagmaflnnaonjaaW.PrintMore
set_option linter.unusedVariables false
set_option linter.unusedSimpArgs false
theorem areWithin2 (a b lo hi : Int) : impl_areWithin.all lo hi [a, b] = (decide (lo ≤ a ∧ a ≤ hi) && decide (lo ≤ b ∧ b ≤ hi)) := by
  simp [impl_areWithin.all]

end Go.Proofs.Ytagmaflnnaonjaa.P
/- A number lies in a range, as the program asks it. -/
namespace Go.Proofs.Ytagmaflnnaonjaa.P
open Go.RowKit Go.Proofs.Ytagmaflnnaonjaa.P Go.Proofs.YtagmaflnnaonjaaW.PrintWords Go.Proofs.YtagmaflnnaonjaaW.PrintLast Go.Proofs.YtagmaflnnaonjaaW.PrintMore
set_option linter.unusedVariables false
set_option linter.unusedSimpArgs false
theorem within_is (a b c : Int) : impl_within.f a b c = some (decide (b ≤ a ∧ a ≤ c)) := by
  unfold impl_within.f
  by_cases h : b ≤ a <;> simp [h]

end Go.Proofs.Ytagmaflnnaonjaa.P
/- Numbers in a range that rise, as the program asks it. -/
namespace Go.Proofs.Ytagmaflnnaonjaa.P
open Go.RowKit Go.Proofs.Ytagmaflnnaonjaa.P Go.Proofs.YtagmaflnnaonjaaW.PrintWords Go.Proofs.YtagmaflnnaonjaaW.PrintLast Go.Proofs.YtagmaflnnaonjaaW.PrintMore
set_option linter.unusedVariables false
set_option linter.unusedSimpArgs false
theorem implRises_loop (l : List Int) (n : Int) (hb : l.length ≤ 9223372036854775806) : ∀ (d k i : Nat), i + d = l.length → d < k → impl_isSet.l0 k l n l l.length i = some (upTo (riseOk l 0 (wrap64 (n - 1))) d i) := by
  intro d
  induction d with
  | zero =>
    intro k i hi' hk
    obtain ⟨k, rfl⟩ : ∃ m, k = m + 1 := ⟨k - 1, by omega⟩
    simp only [impl_isSet.l0]
    rw [if_neg (by omega)]
    rfl
  | succ d ih =>
    intro k i hi' hk
    obtain ⟨k, rfl⟩ : ∃ m, k = m + 1 := ⟨k - 1, by omega⟩
    have hz := ih k (i + 1) (by omega) (by omega)
    simp only [impl_isSet.l0, within_is, bind_some_, upTo, riseOk]
    rw [if_pos (by omega), if_pos (by omega), if_pos (by omega), w64s i (by omega), hz]
    by_cases h : i = 0
    · rw [if_neg (show ¬ (i : Int) > 0 by omega), ite_tt, decide_eq_true h, Bool.true_or, Bool.and_true]
    · have e : wrap64 ((i : Int) - 1) = ((i - 1 : Nat) : Int) := by rw [w64 _ (by omega) (by omega)]; omega
      rw [if_pos (show (i : Int) > 0 by omega), e, if_pos (show (0 : Int) ≤ ((i - 1 : Nat) : Int) by omega), if_pos (show ((i - 1 : Nat) : Int) < (l.length : Int) by omega), ite_ff, ite_tt, not_ge_dec, decide_eq_false h, Bool.false_or, Bool.and_assoc]
theorem implRises_is (k : Nat) (l : List Int) (n : Int) (hb : l.length ≤ 9223372036854775806) (hk : l.length < k) : impl_isSet.f k l n = some (rises l 0 (wrap64 (n - 1))) := by
  unfold impl_isSet.f rises
  exact implRises_loop l n hb l.length k 0 (by omega) hk

end Go.Proofs.Ytagmaflnnaonjaa.P
/- What the program asks of a head. -/
namespace Go.Proofs.Ytagmaflnnaonjaa.P
open Go.RowKit Go.Proofs.Ytagmaflnnaonjaa.P Go.Proofs.YtagmaflnnaonjaaW.PrintWords Go.Proofs.YtagmaflnnaonjaaW.PrintLast Go.Proofs.YtagmaflnnaonjaaW.PrintMore
set_option linter.unusedVariables false
set_option linter.unusedSimpArgs false
theorem implHead_l0 (cs : List S154) (fc st : List Int) (x y : Int) (hc : cs.length ≤ 1048576) (hb : fc.length ≤ 1048576) (hs : st.length ≤ 1048576) : ∀ (d k i : Nat), i + d = cs.length → d + st.length + 1 < k → impl_ValidHead.l0 k cs cs.length i cs fc st x y = some (upTo (cuOk cs) d i && (decide (1 ≤ (cs.length : Int) ∧ (cs.length : Int) ≤ 5) && (decide ((fc.length : Int) ≤ 60) && (impl_areWithin.all 0 100 fc && (decide ((st.length : Int) ≤ 8) && (rises st 0 (wrap64 ((fc.length : Int) - 1)) && (decide (0 ≤ x ∧ x ≤ 10000) && decide (0 ≤ y ∧ y ≤ 10000)))))))) := by
  intro d
  induction d with
  | zero =>
    intro k i hi' hk
    obtain ⟨k, rfl⟩ : ∃ m, k = m + 1 := ⟨k - 1, by omega⟩
    simp only [impl_ValidHead.l0, within_is, impl_areWithin.f, bind_some_, areWithin2]
    rw [if_neg (by omega), implRises_is k st _ (by omega) (by omega)]
    simp only [bind_some_, ite_tt, ite_pp, upTo, Bool.true_and, Bool.decide_eq_true]
  | succ d ih =>
    intro k i hi' hk
    obtain ⟨k, rfl⟩ : ∃ m, k = m + 1 := ⟨k - 1, by omega⟩
    have hz := ih k (i + 1) (by omega) (by omega)
    simp only [impl_ValidHead.l0, within_is, bind_some_]
    rw [if_pos (by omega), if_pos (by omega), if_pos (by omega), w64s i (by omega), hz, ite_tt, ite_tt]
    simp only [upTo, cuOk, Bool.and_assoc]
theorem implHead_is (k : Nat) (cs : List S154) (fc st : List Int) (x y : Int) (hc : cs.length ≤ 1048576) (hb : fc.length ≤ 1048576) (hs : st.length ≤ 1048576) (hk : cs.length + st.length + 3 < k) : impl_ValidHead.f k cs fc st x y = some (hdOk cs fc st x y) := by
  unfold impl_ValidHead.f
  have h0 := implHead_l0 cs fc st x y hc hb hs cs.length k 0 (by omega) (by omega)
  rw [show ((0 : Nat) : Int) = 0 by rfl] at h0
  rw [h0]
  unfold hdOk
  congr 1
  ac_rfl

end Go.Proofs.Ytagmaflnnaonjaa.P
/- How far a cutter lasts, as the program reckons it. -/
namespace Go.Proofs.Ytagmaflnnaonjaa.P
open Go.RowKit Go.Proofs.Ytagmaflnnaonjaa.P Go.Proofs.YtagmaflnnaonjaaW.PrintWords Go.Proofs.YtagmaflnnaonjaaW.PrintLast Go.Proofs.YtagmaflnnaonjaaW.PrintMore
set_option linter.unusedVariables false
set_option linter.unusedSimpArgs false
theorem implReach_l0 (cs : List S154) (fc st : List Int) (x y ax lim : Int) (hb : fc.length ≤ 9223372036854775806) : ∀ (d k i : Nat) (s : Int), i + d = fc.length → d < k → impl_Head_reach.l0 k i s cs fc st x y ax lim = some ((reachGo ax lim fc d i s : Nat) : Int) := by
  intro d
  induction d with
  | zero =>
    intro k i s hi hk
    obtain ⟨k, rfl⟩ : ∃ m, k = m + 1 := ⟨k - 1, by omega⟩
    simp only [impl_Head_reach.l0, reachGo]
    rw [if_neg (by omega)]
  | succ d ih =>
    intro k i s hi hk
    obtain ⟨k, rfl⟩ : ∃ m, k = m + 1 := ⟨k - 1, by omega⟩
    simp only [impl_Head_reach.l0, reachGo]
    rw [if_pos (by omega), if_pos (by omega), w64s i (by omega), ih k (i + 1) _ (by omega) (by omega)]
    split <;> rfl
theorem implReach_is (k : Nat) (cs : List S154) (fc st : List Int) (x y : Int) (a b : Nat) (s : Int) (ha : a < cs.length) (hb : fc.length ≤ 9223372036854775806) (hbl : b ≤ fc.length) (hk : fc.length < k) : impl_Head_reach.f k cs fc st x y a b s = some ((reachOf cs fc a b s : Nat) : Int) := by
  unfold impl_Head_reach.f reachOf
  rw [if_pos (by omega), if_pos (by omega)]
  exact implReach_l0 cs fc st x y _ _ hb (fc.length - b) k b s (by omega) (by omega)

end Go.Proofs.Ytagmaflnnaonjaa.P
/- The stints of a cutter, as the program reckons them. -/
namespace Go.Proofs.Ytagmaflnnaonjaa.P
open Go.RowKit Go.Proofs.Ytagmaflnnaonjaa.P Go.Proofs.YtagmaflnnaonjaaW.PrintWords Go.Proofs.YtagmaflnnaonjaaW.PrintLast Go.Proofs.YtagmaflnnaonjaaW.PrintMore
set_option linter.unusedVariables false
set_option linter.unusedSimpArgs false
theorem implStints_l1 (cs : List S154) (fc st : List Int) (x y a b t : Int) (acc : List (List Int)) (hs : st.length ≤ 1048576) : ∀ (d k i : Nat) (c : Int), i + d = st.length → impl_Head_needs.l1 (k + d + 1) a acc b t c st st.length i cs fc st x y = (if nextOf st b t d i c < 0 then some ([], false) else (if acc.length < 5864062014805 then impl_Head_needs.l0 k a (acc ++ [[b, t]]) (nextOf st b t d i c) cs fc st x y else none)) := by
  intro d
  induction d with
  | zero =>
    intro k i c hi
    simp only [impl_Head_needs.l1, nextOf]
    rw [if_neg (by omega)]
    rfl
  | succ d ih =>
    intro k i c hi
    have hz := fun c => ih k (i + 1) c (by omega)
    obtain ⟨q, hq⟩ : ∃ q, q = k + d + 1 := ⟨_, rfl⟩
    rw [← hq] at hz
    have e : nextOf st b t (d + 1) i c = nextOf st b t d (i + 1) (if rd st (i : Int) > b then (if rd st (i : Int) ≤ t then rd st (i : Int) else c) else c) := rfl
    rw [show k + (d + 1) + 1 = q + 1 by omega, e]
    simp only [impl_Head_needs.l1]
    rw [if_pos (by omega), if_pos (by omega), if_pos (by omega), w64s i (by omega), hz, hz]
    by_cases h1 : rd st (i : Int) > b
    · by_cases h2 : rd st (i : Int) ≤ t
      · rw [if_pos h1, if_pos h2, if_pos h1, if_pos h2]
      · rw [if_pos h1, if_neg h2, if_pos h1, if_neg h2]
    · rw [if_neg h1, if_neg h1]
theorem implStints_l0 (cs : List S154) (fc st : List Int) (x y : Int) (hb : fc.length ≤ 1048576) (hs : st.length ≤ 1048576) (a : Nat) (ha : a < cs.length) : ∀ (d k b : Nat) (acc : List (List Int)), b ≤ fc.length → fc.length + 1 ≤ b + d → acc.length ≤ b → fc.length + st.length + 5 + d * (st.length + 2) ≤ k → impl_Head_needs.l0 k a acc b cs fc st x y = some (stintsGo cs fc st a d b acc) := by
  intro d
  induction d with
  | zero => intro k b acc h1 h2 h3 h4; omega
  | succ d ih =>
    intro k b acc h1 h2 h3 h4
    have h5 : (d + 1) * (st.length + 2) = d * (st.length + 2) + st.length + 2 := by rw [Nat.succ_mul]; omega
    obtain ⟨k, rfl⟩ : ∃ m, k = m + st.length + 1 + 1 := ⟨k - st.length - 2, by omega⟩
    have hr := reachOf_in cs fc a b 0 h1
    have hl1 := implStints_l1 cs fc st x y a b ((reachOf cs fc a b 0 : Nat) : Int) acc hs st.length k 0 (-1) (by omega)
    simp only [impl_Head_needs.l0, stintsGo]
    rw [implReach_is _ cs fc st x y a b 0 ha (by omega) h1 (by omega), bind_some_]
    by_cases hc : ((reachOf cs fc a b 0 : Nat) : Int) = (fc.length : Int)
    · rw [if_pos hc, if_pos hc]
    · rw [if_neg hc, if_neg hc]
      refine hl1.trans ?_
      rcases nextOf_in st b ((reachOf cs fc a b 0 : Nat) : Int) st.length 0 (-1) with hn | ⟨hn1, hn2⟩
      · rw [if_pos (by omega), if_pos (by omega)]
      · rw [if_neg (by omega), if_pos (by omega), if_neg (by omega)]
        obtain ⟨n, hn⟩ : ∃ n : Nat, nextOf st b ((reachOf cs fc a b 0 : Nat) : Int) st.length 0 (-1) = n := ⟨(nextOf st b ((reachOf cs fc a b 0 : Nat) : Int) st.length 0 (-1)).toNat, by omega⟩
        rw [hn] at hn1 hn2 ⊢
        rw [Int.toNat_natCast]
        exact ih k n _ (by omega) (by omega) (by simp; omega) (by omega)
theorem implStints_is (k : Nat) (cs : List S154) (fc st : List Int) (x y : Int) (hb : fc.length ≤ 1048576) (hs : st.length ≤ 1048576) (a : Nat) (ha : a < cs.length) (hk : fc.length + st.length + 5 + (fc.length + 1) * (st.length + 2) ≤ k) : impl_Head_needs.f k cs fc st x y a = some (stints cs fc st a) := by
  unfold impl_Head_needs.f stints
  exact implStints_l0 cs fc st x y hb hs a ha (fc.length + 1) k 0 [] (by omega) (by omega) (by simp) (by omega)

end Go.Proofs.Ytagmaflnnaonjaa.P
/- A number lies in a range, as the reference asks it. -/
namespace Go.Proofs.Ytagmaflnnaonjaa.P
open Go.RowKit Go.Proofs.Ytagmaflnnaonjaa.P Go.Proofs.YtagmaflnnaonjaaW.PrintWords Go.Proofs.YtagmaflnnaonjaaW.PrintLast Go.Proofs.YtagmaflnnaonjaaW.PrintMore
set_option linter.unusedVariables false
set_option linter.unusedSimpArgs false
theorem in_is (a b c : Int) : spec_l00In.f a b c = some (decide (b ≤ a ∧ a ≤ c)) := by
  unfold spec_l00In.f
  by_cases h : b ≤ a <;> simp [h]

end Go.Proofs.Ytagmaflnnaonjaa.P
/- A list of structs is equal to itself. -/
namespace Go.Proofs.Ytagmaflnnaonjaa.P
open Go.RowKit Go.Proofs.Ytagmaflnnaonjaa.P Go.Proofs.YtagmaflnnaonjaaW.PrintWords Go.Proofs.YtagmaflnnaonjaaW.PrintLast Go.Proofs.YtagmaflnnaonjaaW.PrintMore
set_option linter.unusedVariables false
set_option linter.unusedSimpArgs false
theorem eqCutterS_loop (a : List S154) (hb : a.length ≤ 9223372036854775807) : ∀ (d k i : Nat), i + d = a.length → d < k → laws_eqCutterS.l0 k a a i = some true := by
  intro d
  induction d with
  | zero =>
    intro k i hi hk
    obtain ⟨k, rfl⟩ : ∃ m, k = m + 1 := ⟨k - 1, by omega⟩
    simp only [laws_eqCutterS.l0]
    rw [if_neg (by omega)]
  | succ d ih =>
    intro k i hi hk
    obtain ⟨k, rfl⟩ : ∃ m, k = m + 1 := ⟨k - 1, by omega⟩
    simp only [laws_eqCutterS.l0, laws_eqCutter.f, if_true, bind_some_]
    rw [if_pos (by omega), if_pos (by omega), if_pos (by omega), w64s i (by omega)]
    exact ih k (i + 1) (by omega) (by omega)
theorem eqCutterS_refl (k : Nat) (a : List S154) (hb : a.length ≤ 9223372036854775807) (hk : a.length < k) : laws_eqCutterS.f k a a = some true := by
  unfold laws_eqCutterS.f
  rw [if_pos rfl]
  exact eqCutterS_loop a hb a.length k 0 (by omega) hk

end Go.Proofs.Ytagmaflnnaonjaa.P
/- Two lists of numbers are compared. -/
namespace Go.Proofs.Ytagmaflnnaonjaa.P
open Go.RowKit Go.Proofs.Ytagmaflnnaonjaa.P Go.Proofs.YtagmaflnnaonjaaW.PrintWords Go.Proofs.YtagmaflnnaonjaaW.PrintLast Go.Proofs.YtagmaflnnaonjaaW.PrintMore
set_option linter.unusedVariables false
set_option linter.unusedSimpArgs false
theorem eqInt_loop (a b : List Int) (hl : a.length = b.length) (hb : a.length ≤ 9223372036854775807) : ∀ (d k i : Nat), i + d = a.length → d < k → laws_eqInt64S.l0 k a b i = some (decide (a.drop i = b.drop i)) := by
  intro d
  induction d with
  | zero =>
    intro k i hi hk
    obtain ⟨k, rfl⟩ : ∃ m, k = m + 1 := ⟨k - 1, by omega⟩
    simp only [laws_eqInt64S.l0]
    rw [if_neg (by omega), List.drop_of_length_le (by omega), List.drop_of_length_le (by omega)]
    simp
  | succ d ih =>
    intro k i hi hk
    obtain ⟨k, rfl⟩ : ∃ m, k = m + 1 := ⟨k - 1, by omega⟩
    simp only [laws_eqInt64S.l0]
    rw [if_pos (by omega), if_pos (by omega), if_pos (by omega), w64s i (by omega), ih k (i + 1) (by omega) (by omega), drop_at a i (by omega), drop_at b i (by omega)]
    by_cases h : rd a i = rd b i
    · rw [if_pos h]; simp [h]
    · rw [if_neg h]; simp [h]
theorem eqInt_is (k : Nat) (a b : List Int) (hb : a.length ≤ 9223372036854775807) (hk : a.length < k) : laws_eqInt64S.f k a b = some (decide (a = b)) := by
  unfold laws_eqInt64S.f
  by_cases h : a.length = b.length
  · rw [if_pos (by omega)]
    have := eqInt_loop a b h hb a.length k 0 (by omega) hk
    simpa using this
  · rw [if_neg (by omega)]
    have : a ≠ b := fun e => h (by rw [e])
    simp [this]

end Go.Proofs.Ytagmaflnnaonjaa.P
/- A list of the law's own structs is copied into the program's. -/
namespace Go.Proofs.Ytagmaflnnaonjaa.P
open Go.RowKit Go.Proofs.Ytagmaflnnaonjaa.P Go.Proofs.YtagmaflnnaonjaaW.PrintWords Go.Proofs.YtagmaflnnaonjaaW.PrintLast Go.Proofs.YtagmaflnnaonjaaW.PrintMore
set_option linter.unusedVariables false
set_option linter.unusedSimpArgs false
def toCutter (x : S156) : S154 := ⟨x.f0, x.f1⟩
theorem rdLCutter_at (l : List S156) (i : Nat) (h : i < l.length) : rd_T156 l (i : Int) = l[i] := by
  unfold rd_T156
  rw [Int.toNat_natCast, List.getD_eq_getElem?_getD, List.getElem?_eq_getElem h]
  rfl
theorem toCutterS_loop (l : List S156) (hb : l.length ≤ 9223372036854775807) : ∀ (d k i : Nat) (acc : List S154), i + d = l.length → d < k → acc.length = l.length → acc.take i = (l.map toCutter).take i → laws_toCutterS.l0 k l acc i = some (l.map toCutter) := by
  intro d
  induction d with
  | zero =>
    intro k i acc hi hk ha ht
    obtain ⟨k, rfl⟩ : ∃ m, k = m + 1 := ⟨k - 1, by omega⟩
    simp only [laws_toCutterS.l0]
    rw [if_neg (by omega)]
    rw [List.take_of_length_le (by omega), List.take_of_length_le (by rw [List.length_map]; omega)] at ht
    rw [ht]
  | succ d ih =>
    intro k i acc hi hk ha ht
    obtain ⟨k, rfl⟩ : ∃ m, k = m + 1 := ⟨k - 1, by omega⟩
    simp only [laws_toCutterS.l0, laws_toCutter.f, bind_some_]
    rw [if_pos (by omega), if_pos (by omega), if_pos (by omega), w64s i (by omega), Int.toNat_natCast]
    refine ih k (i + 1) _ (by omega) (by omega) (by rw [List.length_set]; exact ha) (fill_step (l.map toCutter) acc i _ (by rw [List.length_map]; omega) (by rw [List.length_map]; exact ha) ht ?_)
    rw [List.getElem_map, rdLCutter_at l i (by omega)]
    rfl
theorem toCutterS_is (k : Nat) (l : List S156) (hb : l.length ≤ 1048576) (hk : l.length < k) : laws_toCutterS.f k l = some (l.map toCutter) := by
  unfold laws_toCutterS.f
  rw [if_pos (by omega), if_pos (by omega)]
  exact toCutterS_loop l (by omega) l.length k 0 _ (by omega) hk (by simp) (by simp)

end Go.Proofs.Ytagmaflnnaonjaa.P
/- A list of numbers is copied. -/
namespace Go.Proofs.Ytagmaflnnaonjaa.P
open Go.RowKit Go.Proofs.Ytagmaflnnaonjaa.P Go.Proofs.YtagmaflnnaonjaaW.PrintWords Go.Proofs.YtagmaflnnaonjaaW.PrintLast Go.Proofs.YtagmaflnnaonjaaW.PrintMore
set_option linter.unusedVariables false
set_option linter.unusedSimpArgs false
theorem toInt_loop (l : List Int) (hb : l.length ≤ 9223372036854775807) : ∀ (d k i : Nat) (acc : List Int), i + d = l.length → d < k → acc.length = l.length → acc.take i = l.take i → laws_toInt64S.l0 k l acc i = some l := by
  intro d
  induction d with
  | zero =>
    intro k i acc hi hk ha ht
    obtain ⟨k, rfl⟩ : ∃ m, k = m + 1 := ⟨k - 1, by omega⟩
    simp only [laws_toInt64S.l0]
    rw [if_neg (by omega)]
    rw [List.take_of_length_le (by omega), List.take_of_length_le (by omega)] at ht
    rw [ht]
  | succ d ih =>
    intro k i acc hi hk ha ht
    obtain ⟨k, rfl⟩ : ∃ m, k = m + 1 := ⟨k - 1, by omega⟩
    simp only [laws_toInt64S.l0]
    rw [if_pos (by omega), if_pos (by omega), if_pos (by omega), w64s i (by omega), Int.toNat_natCast]
    exact ih k (i + 1) _ (by omega) (by omega) (by rw [List.length_set]; exact ha) (fill_step l acc i _ (by omega) ha ht (rd_at l i (by omega)).symm)
theorem toInt_is (k : Nat) (l : List Int) (hb : l.length ≤ 35184372088832) (hk : l.length < k) : laws_toInt64S.f k l = some l := by
  unfold laws_toInt64S.f
  rw [if_pos (by omega), if_pos (by omega)]
  exact toInt_loop l (by omega) l.length k 0 _ (by omega) hk (by simp) (by simp)

end Go.Proofs.Ytagmaflnnaonjaa.P
/- A head is copied, measured, and equal to itself. -/
namespace Go.Proofs.Ytagmaflnnaonjaa.P
open Go.RowKit Go.Proofs.Ytagmaflnnaonjaa.P Go.Proofs.YtagmaflnnaonjaaW.PrintWords Go.Proofs.YtagmaflnnaonjaaW.PrintLast Go.Proofs.YtagmaflnnaonjaaW.PrintMore
set_option linter.unusedVariables false
set_option linter.unusedSimpArgs false
theorem toHead_is (k : Nat) (cs : List S156) (fc st : List Int) (x y : Int) (hc : cs.length ≤ 1048576) (hb : fc.length ≤ 1048576) (hs : st.length ≤ 1048576) (hk : cs.length + fc.length + st.length < k) : laws_toHead.f k cs fc st x y = some (cs.map toCutter, fc, st, x, y) := by
  unfold laws_toHead.f
  rw [toCutterS_is k cs hc (by omega), bind_some_, toInt_is k fc (by omega) (by omega), bind_some_, toInt_is k st (by omega) (by omega), bind_some_]
theorem eqHead_refl (k : Nat) (cs : List S154) (fc st : List Int) (x y : Int) (hc : cs.length ≤ 1048576) (hb : fc.length ≤ 1048576) (hs : st.length ≤ 1048576) (hk : cs.length + fc.length + st.length < k) : laws_eqHead.f k cs fc st x y cs fc st x y = some true := by
  unfold laws_eqHead.f
  rw [eqCutterS_refl k cs (by omega) (by omega), bind_some_, if_pos rfl, eqInt_is k fc fc (by omega) (by omega), bind_some_, if_pos (decide_eq_true rfl), eqInt_is k st st (by omega) (by omega), bind_some_, if_pos (decide_eq_true rfl), if_pos rfl, if_pos rfl]
theorem szHead_is2 (cs : List S156) (fc st : List Int) (x y : Int) (hc : cs.length ≤ 9223372036854775807) (hb : fc.length ≤ 9223372036854775807) (hs : st.length ≤ 9223372036854775807) : ∃ r, laws_szHead.f cs fc st x y 1048576 = some r ∧ r ≤ 1048576 ∧ (r < 0 ∨ (cs.length ≤ 1048576 ∧ fc.length ≤ 1048576 ∧ st.length ≤ 1048576)) := by
  unfold laws_szHead.f laws_szCutterS.f laws_szInt64S.f
  rw [w64 (1048576 - (cs.length : Int)) (by omega) (by omega)]
  by_cases h1 : 1048576 - (cs.length : Int) < 0
  · rw [if_pos h1, bind_some_, if_pos (by omega)]
    exact ⟨_, rfl, by omega, Or.inl (by omega)⟩
  · rw [if_neg h1, bind_some_, if_neg h1, w64 (1048576 - (cs.length : Int) - (fc.length : Int)) (by omega) (by omega)]
    by_cases h2 : 1048576 - (cs.length : Int) - (fc.length : Int) < 0
    · rw [if_pos h2, bind_some_, if_pos (by omega)]
      exact ⟨_, rfl, by omega, Or.inl (by omega)⟩
    · rw [if_neg h2, bind_some_, if_neg h2, w64 (1048576 - (cs.length : Int) - (fc.length : Int) - (st.length : Int)) (by omega) (by omega)]
      by_cases h3 : 1048576 - (cs.length : Int) - (fc.length : Int) - (st.length : Int) < 0
      · rw [if_pos h3, bind_some_, if_pos (by omega)]
        exact ⟨_, rfl, by omega, Or.inl (by omega)⟩
      · rw [if_neg h3, bind_some_, if_neg h3]
        exact ⟨_, rfl, by omega, Or.inr (by omega)⟩
theorem szHead_is (cs : List S156) (fc st : List Int) (x y : Int) (hc : cs.length ≤ 9223372036854775807) (hb : fc.length ≤ 9223372036854775807) (hs : st.length ≤ 9223372036854775807) : ∃ r, laws_szHead.f cs fc st x y 1048576 = some r ∧ (r < 0 ∨ (cs.length ≤ 1048576 ∧ fc.length ≤ 1048576 ∧ st.length ≤ 1048576)) := by
  obtain ⟨r, h1, _, h2⟩ := szHead_is2 cs fc st x y hc hb hs
  exact ⟨r, h1, h2⟩

end Go.Proofs.Ytagmaflnnaonjaa.P
/- An element of a list of structs, read at an index. -/
namespace Go.Proofs.Ytagmaflnnaonjaa.P
open Go.RowKit Go.Proofs.Ytagmaflnnaonjaa.P Go.Proofs.YtagmaflnnaonjaaW.PrintWords Go.Proofs.YtagmaflnnaonjaaW.PrintLast Go.Proofs.YtagmaflnnaonjaaW.PrintMore
set_option linter.unusedVariables false
set_option linter.unusedSimpArgs false
theorem rdCutter_at (l : List S154) (i : Nat) (h : i < l.length) : rd_T154 l (i : Int) = l[i] := by
  unfold rd_T154
  rw [Int.toNat_natCast, List.getD_eq_getElem?_getD, List.getElem?_eq_getElem h]
  rfl
end Go.Proofs.Ytagmaflnnaonjaa.P
/- A list of structs is marked with rising numbers, and still holds them. -/
namespace Go.Proofs.Ytagmaflnnaonjaa.P
open Go.RowKit Go.Proofs.Ytagmaflnnaonjaa.P Go.Proofs.YtagmaflnnaonjaaW.PrintWords Go.Proofs.YtagmaflnnaonjaaW.PrintLast Go.Proofs.YtagmaflnnaonjaaW.PrintMore
set_option linter.unusedVariables false
set_option linter.unusedSimpArgs false
def iotaCutter (m : Int) (c : Nat) : List S154 := (List.range c).map fun (i : Nat) => ⟨m + 2 * (i : Int), m + 2 * (i : Int) + 1⟩
theorem iotaCutter_len (m : Int) (c : Nat) : (iotaCutter m c).length = c := by simp [iotaCutter]
theorem iotaCutter_get (m : Int) (c i : Nat) (h : i < (iotaCutter m c).length) : (iotaCutter m c)[i] = ⟨m + 2 * (i : Int), m + 2 * (i : Int) + 1⟩ := by simp [iotaCutter]
theorem rdCutter_set (l : List S154) (i : Nat) (x : S154) (h : i < l.length) : rd_T154 (l.set i x) (i : Int) = x := by
  rw [rdCutter_at _ i (by rw [List.length_set]; exact h), List.getElem_set_self]
theorem markCutterS_loop (c : Nat) (hb : c ≤ 4000000000000000) (m : Int) (hm : 0 ≤ m ∧ m ≤ 4000000000000000) : ∀ (d k i : Nat) (l : List S154), i + d = c → d < k → l.length = c → l.take i = (iotaCutter m c).take i → laws_markCutterS.l0 k l (m + 2 * (i : Int)) i = some (m + 2 * c, iotaCutter m c) := by
  intro d
  induction d with
  | zero =>
    intro k i l hi hk hl ht
    obtain ⟨k, rfl⟩ : ∃ m, k = m + 1 := ⟨k - 1, by omega⟩
    simp only [laws_markCutterS.l0]
    rw [if_neg (by omega)]
    rw [List.take_of_length_le (by omega), List.take_of_length_le (by rw [iotaCutter_len]; omega)] at ht
    rw [ht, show i = c by omega]
  | succ d ih =>
    intro k i l hi hk hl ht
    obtain ⟨k, rfl⟩ : ∃ m, k = m + 1 := ⟨k - 1, by omega⟩
    have e1 : wrap64 (m + 2 * (i : Int) + 1) = m + 2 * (i : Int) + 1 := by
      rw [w64 _ (by omega) (by omega)] <;> omega
    have e2 : wrap64 (m + 2 * (i : Int) + 1 + 1) = m + 2 * ((i + 1 : Nat) : Int) := by
      rw [w64 _ (by omega) (by omega)] <;> omega
    simp only [laws_markCutterS.l0, bind_some_, Int.toNat_natCast, List.set_set, rdCutter_set l i _ (show i < l.length by omega)]
    rw [if_pos (by omega), if_pos (by omega), w64s i (by omega)]
    simp only [Int.add_assoc, Int.reduceAdd] at *
    simp only [e1, e2, Int.add_assoc, Int.reduceAdd]
    have ht2 := fill_step (iotaCutter m c) l i ⟨m + 2 * (i : Int), m + 2 * (i : Int) + 1⟩ (by rw [iotaCutter_len]; omega) (by rw [iotaCutter_len]; exact hl) ht (iotaCutter_get m c i (by rw [iotaCutter_len]; omega))
    have hz := ih k (i + 1) _ (by omega) (by omega) (by rw [List.length_set]; exact hl) ht2
    simp only [Int.add_assoc, Int.reduceAdd, List.set_set] at hz ⊢
    exact hz
theorem markCutterS_is (k : Nat) (l : List S154) (m : Int) (hm : 0 ≤ m ∧ m ≤ 4000000000000000) (hb : l.length ≤ 4000000000000000) (hk : l.length < k) : laws_markCutterS.f k l m = some (m + 2 * l.length, iotaCutter m l.length) := by
  unfold laws_markCutterS.f
  have := markCutterS_loop l.length hb m hm l.length k 0 l (by omega) hk rfl (by simp)
  simpa using this

end Go.Proofs.Ytagmaflnnaonjaa.P
/- A list is marked with rising numbers, and still holds them. -/
namespace Go.Proofs.Ytagmaflnnaonjaa.P
open Go.RowKit Go.Proofs.Ytagmaflnnaonjaa.P Go.Proofs.YtagmaflnnaonjaaW.PrintWords Go.Proofs.YtagmaflnnaonjaaW.PrintLast Go.Proofs.YtagmaflnnaonjaaW.PrintMore
set_option linter.unusedVariables false
set_option linter.unusedSimpArgs false
theorem markInt_loop (n : Nat) (hb : n ≤ 4000000000000000000) (m : Int) (hm : 0 ≤ m ∧ m ≤ 4000000000000000000) : ∀ (d k i : Nat) (l : List Int), i + d = n → d < k → l.length = n → l.take i = (iota m n).take i → laws_markInt64S.l0 k l (m + i) i = some (m + n, iota m n) := by
  intro d
  induction d with
  | zero =>
    intro k i l hi hk hl ht
    obtain ⟨k, rfl⟩ : ∃ m, k = m + 1 := ⟨k - 1, by omega⟩
    simp only [laws_markInt64S.l0]
    rw [if_neg (by omega)]
    rw [List.take_of_length_le (by omega), List.take_of_length_le (by rw [iota_length]; omega)] at ht
    rw [ht, show i = n by omega]
  | succ d ih =>
    intro k i l hi hk hl ht
    obtain ⟨k, rfl⟩ : ∃ m, k = m + 1 := ⟨k - 1, by omega⟩
    simp only [laws_markInt64S.l0]
    rw [if_pos (by omega), if_pos (by omega), w64s i (by omega), Int.toNat_natCast, w64 (m + i + 1) (by omega) (by omega), show m + (i : Int) + 1 = m + ((i + 1 : Nat) : Int) by omega]
    exact ih k (i + 1) _ (by omega) (by omega) (by rw [List.length_set]; exact hl) (fill_step (iota m n) l i _ (by rw [iota_length]; omega) (by rw [iota_length]; exact hl) ht (iota_get m n i (by rw [iota_length]; omega)))
theorem markInt_is (k : Nat) (l : List Int) (m : Int) (hm : 0 ≤ m ∧ m ≤ 4000000000000000000) (hb : l.length ≤ 4000000000000000000) (hk : l.length < k) : laws_markInt64S.f k l m = some (m + l.length, iota m l.length) := by
  unfold laws_markInt64S.f
  have := markInt_loop l.length hb m hm l.length k 0 l (by omega) hk rfl (by simp)
  simpa using this

end Go.Proofs.Ytagmaflnnaonjaa.P
/- A list that was marked still holds its marks. -/
namespace Go.Proofs.Ytagmaflnnaonjaa.P
open Go.RowKit Go.Proofs.Ytagmaflnnaonjaa.P Go.Proofs.YtagmaflnnaonjaaW.PrintWords Go.Proofs.YtagmaflnnaonjaaW.PrintLast Go.Proofs.YtagmaflnnaonjaaW.PrintMore
set_option linter.unusedVariables false
set_option linter.unusedSimpArgs false
theorem heldInt_loop (n : Nat) (hb : n ≤ 4000000000000000000) (m : Int) (hm : 0 ≤ m ∧ m ≤ 4000000000000000000) : ∀ (d k i : Nat), i + d = n → d < k → laws_heldInt64S.l0 k (iota m n) (m + i) i = some (m + n) := by
  intro d
  induction d with
  | zero =>
    intro k i hi hk
    obtain ⟨k, rfl⟩ : ∃ m, k = m + 1 := ⟨k - 1, by omega⟩
    simp only [laws_heldInt64S.l0]
    rw [if_neg (by rw [iota_length]; omega), show i = n by omega]
  | succ d ih =>
    intro k i hi hk
    obtain ⟨k, rfl⟩ : ∃ m, k = m + 1 := ⟨k - 1, by omega⟩
    simp only [laws_heldInt64S.l0]
    have hr : rd (iota m n) i = m + i := by rw [rd_at _ i (by rw [iota_length]; omega), iota_get]
    rw [if_pos (by rw [iota_length]; omega), if_pos (by omega), if_pos hr, w64s i (by omega), w64 (m + i + 1) (by omega) (by omega), show m + (i : Int) + 1 = m + ((i + 1 : Nat) : Int) by omega]
    exact ih k (i + 1) (by omega) (by omega)
theorem heldInt_is (k : Nat) (n : Nat) (m : Int) (hm : 0 ≤ m ∧ m ≤ 4000000000000000000) (hb : n ≤ 4000000000000000000) (hk : n < k) : laws_heldInt64S.f k (iota m n) m = some (m + n) := by
  unfold laws_heldInt64S.f
  have := heldInt_loop n hb m hm n k 0 (by omega) hk
  simpa using this

end Go.Proofs.Ytagmaflnnaonjaa.P
/- Rows of numbers are marked with rising numbers, and still hold them. -/
namespace Go.Proofs.Ytagmaflnnaonjaa.P
open Go.RowKit Go.Proofs.Ytagmaflnnaonjaa.P Go.Proofs.YtagmaflnnaonjaaW.PrintWords Go.Proofs.YtagmaflnnaonjaaW.PrintLast Go.Proofs.YtagmaflnnaonjaaW.PrintMore
set_option linter.unusedVariables false
set_option linter.unusedSimpArgs false
def iotaSS : Int → List (List Int) → List (List Int)
  | _, [] => []
  | m, r :: rs => iota m r.length :: iotaSS (m + r.length) rs
def cntSS : List (List Int) → Nat
  | [] => 0
  | r :: rs => r.length + cntSS rs
theorem markSS_loop : ∀ (todo : List (List Int)) (k : Nat) (pre : List (List Int)) (m : Int), (pre.length + todo.length : Int) ≤ 4000000000000000000 → cntSS todo + todo.length < k → 0 ≤ m → m + cntSS todo ≤ 4000000000000000000 → laws_markInt64SS.l0 k (pre ++ todo) m pre.length = some (m + cntSS todo, pre ++ iotaSS m todo) := by
  intro todo
  induction todo with
  | nil =>
    intro k pre m h1 h2 h3 h4
    obtain ⟨k, rfl⟩ : ∃ m, k = m + 1 := ⟨k - 1, by omega⟩
    simp only [laws_markInt64SS.l0]
    rw [if_neg (by simp)]
    simp [cntSS, iotaSS]
  | cons r rs ih =>
    intro k pre m h1 h2 h3 h4
    obtain ⟨k, rfl⟩ : ∃ m, k = m + 1 := ⟨k - 1, by omega⟩
    simp only [cntSS, List.length_cons] at h1 h2 h4
    have e1 : (pre ++ r :: rs).getD ((pre.length : Int)).toNat ([] : List Int) = r := by
      rw [Int.toNat_natCast, List.getD_eq_getElem?_getD, List.getElem?_append_right (Nat.le_refl _), Nat.sub_self]
      rfl
    have e2 : (pre ++ r :: rs).set ((pre.length : Int)).toNat (iota m r.length) = (pre ++ [iota m r.length]) ++ rs := by
      rw [Int.toNat_natCast, List.set_append_right _ _ (Nat.le_refl _), Nat.sub_self]
      simp
    have e3 : pre.length + 1 = (pre ++ [iota m r.length]).length := by simp
    simp only [laws_markInt64SS.l0]
    rw [if_pos (by simp; omega), if_pos (by omega), e1, markInt_is k r m (by omega) (by omega) (by omega), bind_some_, e2, w64s pre.length (by omega), e3, ih k (pre ++ [iota m r.length]) (m + r.length) (by simp; omega) (by omega) (by omega) (by omega)]
    simp only [cntSS, iotaSS, List.append_assoc, List.singleton_append, Int.natCast_add, Int.add_assoc]
theorem heldSS_loop : ∀ (todo : List (List Int)) (k : Nat) (pre : List (List Int)) (m : Int), (pre.length + todo.length : Int) ≤ 4000000000000000000 → cntSS todo + todo.length < k → 0 ≤ m → m + cntSS todo ≤ 4000000000000000000 → laws_heldInt64SS.l0 k (pre ++ iotaSS m todo) m pre.length = some (m + cntSS todo) := by
  intro todo
  induction todo with
  | nil =>
    intro k pre m h1 h2 h3 h4
    obtain ⟨k, rfl⟩ : ∃ m, k = m + 1 := ⟨k - 1, by omega⟩
    simp only [laws_heldInt64SS.l0]
    rw [if_neg (by simp [iotaSS])]
    simp [cntSS]
  | cons r rs ih =>
    intro k pre m h1 h2 h3 h4
    obtain ⟨k, rfl⟩ : ∃ m, k = m + 1 := ⟨k - 1, by omega⟩
    simp only [cntSS, List.length_cons] at h1 h2 h4
    have e1 : rd_L2 (pre ++ iotaSS m (r :: rs)) (pre.length : Int) = iota m r.length := by
      unfold rd_L2
      rw [Int.toNat_natCast, List.getD_eq_getElem?_getD, List.getElem?_append_right (Nat.le_refl _), Nat.sub_self]
      rfl
    have e2 : pre ++ iotaSS m (r :: rs) = (pre ++ [iota m r.length]) ++ iotaSS (m + r.length) rs := by simp [iotaSS]
    have e3 : pre.length + 1 = (pre ++ [iota m r.length]).length := by simp
    simp only [laws_heldInt64SS.l0]
    rw [if_pos (by simp [iotaSS]; omega), if_pos (by omega), e1, heldInt_is k r.length m (by omega) (by omega) (by omega), bind_some_, if_neg (by omega), w64s pre.length (by omega), e3, e2, ih k (pre ++ [iota m r.length]) (m + r.length) (by simp; omega) (by omega) (by omega) (by omega)]
    simp only [cntSS, Int.natCast_add, Int.add_assoc]
theorem markSS_is (k : Nat) (rs : List (List Int)) (h1 : rs.length ≤ 1000000) (h2 : cntSS rs ≤ 1000000) (hk : 3000000 < k) : laws_markInt64SS.f k rs 1 = some (1 + (cntSS rs : Int), iotaSS 1 rs) ∧ laws_heldInt64SS.f k (iotaSS 1 rs) 1 = some (1 + (cntSS rs : Int)) := by
  have e1 := markSS_loop rs k [] 1 (by simp; omega) (by omega) (by omega) (by omega)
  have e2 := heldSS_loop rs k [] 1 (by simp; omega) (by omega) (by omega) (by omega)
  exact ⟨e1, e2⟩
theorem eqSS_loop (rs : List (List Int)) (hb : rs.length ≤ 1000000) (hr : ∀ r ∈ rs, r.length ≤ 1000000) : ∀ (d k i : Nat), i + d = rs.length → d + 1000001 < k → laws_eqInt64SS.l0 k rs rs i = some true := by
  intro d
  induction d with
  | zero =>
    intro k i hi hk
    obtain ⟨k, rfl⟩ : ∃ m, k = m + 1 := ⟨k - 1, by omega⟩
    simp only [laws_eqInt64SS.l0]
    rw [if_neg (by omega)]
  | succ d ih =>
    intro k i hi hk
    obtain ⟨k, rfl⟩ : ∃ m, k = m + 1 := ⟨k - 1, by omega⟩
    have hlt : i < rs.length := by omega
    have e1 : rd_L2 rs (i : Int) = rs[i] := by
      unfold rd_L2
      rw [Int.toNat_natCast, List.getD_eq_getElem?_getD, List.getElem?_eq_getElem hlt]
      rfl
    have h1 := hr _ (List.getElem_mem hlt)
    simp only [laws_eqInt64SS.l0]
    rw [if_pos (by omega), if_pos (by omega), if_pos (by omega), e1, eqInt_is k _ _ (by omega) (by omega), bind_some_, if_pos (decide_eq_true rfl), w64s i (by omega)]
    exact ih k (i + 1) (by omega) (by omega)
theorem eqSS_refl (k : Nat) (rs : List (List Int)) (hb : rs.length ≤ 1000000) (hr : ∀ r ∈ rs, r.length ≤ 1000000) (hk : 3000000 < k) : laws_eqInt64SS.f k rs rs = some true := by
  unfold laws_eqInt64SS.f
  rw [if_pos rfl]
  exact eqSS_loop rs hb hr rs.length k 0 (by omega) (by omega)

end Go.Proofs.Ytagmaflnnaonjaa.P
/- Numbers in a range that rise, as the reference asks it. -/
namespace Go.Proofs.Ytagmaflnnaonjaa.P
open Go.RowKit Go.Proofs.Ytagmaflnnaonjaa.P Go.Proofs.YtagmaflnnaonjaaW.PrintWords Go.Proofs.YtagmaflnnaonjaaW.PrintLast Go.Proofs.YtagmaflnnaonjaaW.PrintMore
set_option linter.unusedVariables false
set_option linter.unusedSimpArgs false
theorem specRises_loop (l : List Int) (lo hi : Int) (hb : l.length ≤ 9223372036854775806) : ∀ (d k i : Nat), i + d = l.length → d < k → spec_l00Rises.l0 k l lo hi i = some (upTo (riseOk l lo hi) d i) := by
  intro d
  induction d with
  | zero =>
    intro k i hi' hk
    obtain ⟨k, rfl⟩ : ∃ m, k = m + 1 := ⟨k - 1, by omega⟩
    simp only [spec_l00Rises.l0]
    rw [if_neg (by omega)]
    rfl
  | succ d ih =>
    intro k i hi' hk
    obtain ⟨k, rfl⟩ : ∃ m, k = m + 1 := ⟨k - 1, by omega⟩
    have hz := ih k (i + 1) (by omega) (by omega)
    simp only [spec_l00Rises.l0, in_is, bind_some_, upTo, riseOk]
    rw [if_pos (by omega), if_pos (by omega), w64s i (by omega), hz]
    by_cases h : i = 0
    · rw [if_neg (show ¬ (i : Int) > 0 by omega), ite_tt, decide_eq_true h, Bool.true_or, Bool.and_true]
    · have e : wrap64 ((i : Int) - 1) = ((i - 1 : Nat) : Int) := by rw [w64 _ (by omega) (by omega)]; omega
      rw [if_pos (show (i : Int) > 0 by omega), e, if_pos (show (0 : Int) ≤ ((i - 1 : Nat) : Int) by omega), if_pos (show ((i - 1 : Nat) : Int) < (l.length : Int) by omega), ite_ff, ite_tt, not_ge_dec, decide_eq_false h, Bool.false_or, Bool.and_assoc]
theorem specRises_is (k : Nat) (l : List Int) (lo hi : Int) (hb : l.length ≤ 9223372036854775806) (hk : l.length < k) : spec_l00Rises.f k l lo hi = some (rises l lo hi) := by
  unfold spec_l00Rises.f rises
  exact specRises_loop l lo hi hb l.length k 0 (by omega) hk

end Go.Proofs.Ytagmaflnnaonjaa.P
/- What the reference asks of a head. -/
namespace Go.Proofs.Ytagmaflnnaonjaa.P
open Go.RowKit Go.Proofs.Ytagmaflnnaonjaa.P Go.Proofs.YtagmaflnnaonjaaW.PrintWords Go.Proofs.YtagmaflnnaonjaaW.PrintLast Go.Proofs.YtagmaflnnaonjaaW.PrintMore
set_option linter.unusedVariables false
set_option linter.unusedSimpArgs false
theorem specHead_l1 (cs : List S154) (fc st : List Int) (x y : Int) (hb : fc.length ≤ 9223372036854775806) : ∀ (d k i : Nat), i + d = fc.length → d < k → spec_l08Is.l1 k i cs fc st x y = some (impl_areWithin.all 0 100 (fc.drop i) && (decide (0 ≤ x ∧ x ≤ 10000) && decide (0 ≤ y ∧ y ≤ 10000))) := by
  intro d
  induction d with
  | zero =>
    intro k i hi' hk
    obtain ⟨k, rfl⟩ : ∃ m, k = m + 1 := ⟨k - 1, by omega⟩
    simp only [spec_l08Is.l1, in_is, bind_some_]
    rw [if_neg (by omega), List.drop_of_length_le (by omega), ite_tt]
    rfl
  | succ d ih =>
    intro k i hi' hk
    obtain ⟨k, rfl⟩ : ∃ m, k = m + 1 := ⟨k - 1, by omega⟩
    have hz := ih k (i + 1) (by omega) (by omega)
    rw [drop_at fc i (by omega)]
    simp only [spec_l08Is.l1, in_is, bind_some_]
    rw [if_pos (by omega), if_pos (by omega), w64s i (by omega), hz, ite_tt]
    simp only [impl_areWithin.all, List.all_cons, Bool.and_assoc]
theorem specHead_l0 (cs : List S154) (fc st : List Int) (x y : Int) (hc : cs.length ≤ 9223372036854775806) (hb : fc.length ≤ 9223372036854775806) : ∀ (d k i : Nat), i + d = cs.length → d + fc.length + 1 < k → spec_l08Is.l0 k i cs fc st x y = some (upTo (cuOk cs) d i && (impl_areWithin.all 0 100 fc && (decide (0 ≤ x ∧ x ≤ 10000) && decide (0 ≤ y ∧ y ≤ 10000)))) := by
  intro d
  induction d with
  | zero =>
    intro k i hi' hk
    obtain ⟨k, rfl⟩ : ∃ m, k = m + 1 := ⟨k - 1, by omega⟩
    have h1 := specHead_l1 cs fc st x y hb fc.length k 0 (by omega) (by omega)
    rw [List.drop_zero] at h1
    simp only [spec_l08Is.l0]
    rw [if_neg (by omega)]
    exact h1
  | succ d ih =>
    intro k i hi' hk
    obtain ⟨k, rfl⟩ : ∃ m, k = m + 1 := ⟨k - 1, by omega⟩
    have hz := ih k (i + 1) (by omega) (by omega)
    simp only [spec_l08Is.l0, in_is, bind_some_]
    rw [if_pos (by omega), if_pos (by omega), w64s i (by omega), hz, ite_tt, ite_tt]
    simp only [upTo, cuOk, Bool.and_assoc]
theorem specIs_is (k : Nat) (cs : List S154) (fc st : List Int) (x y : Int) (hc : cs.length ≤ 1048576) (hb : fc.length ≤ 1048576) (hs : st.length ≤ 1048576) (hk : cs.length + fc.length + st.length + 3 < k) : spec_l08Is.f k cs fc st x y = some (hdOk cs fc st x y) := by
  obtain ⟨k, rfl⟩ : ∃ m, k = m + 1 := ⟨k - 1, by omega⟩
  have h0 := specHead_l0 cs fc st x y (by omega) (by omega) cs.length k 0 (by omega) (by omega)
  rw [show ((0 : Nat) : Int) = 0 by rfl] at h0
  unfold spec_l08Is.f hdOk
  rw [in_is, bind_some_, specRises_is (k + 1) st _ _ (by omega) (by omega), bind_some_]
  simp only [spec_l08Is.j0, h0, if_true]
  generalize upTo (cuOk cs) cs.length 0 = b1
  generalize impl_areWithin.all 0 100 fc = b2
  generalize rises st 0 (wrap64 ((fc.length : Int) - 1)) = b3
  by_cases h1 : (1 ≤ (cs.length : Int) ∧ (cs.length : Int) ≤ 5)
  · by_cases h2 : (fc.length : Int) > 60
    · rw [if_pos (decide_eq_true h1), if_pos h2, decide_eq_false (show ¬ (fc.length : Int) ≤ 60 by omega)]
      simp
    · rw [if_pos (decide_eq_true h1), if_neg h2, decide_eq_true (show (fc.length : Int) ≤ 60 by omega), decide_eq_true h1]
      by_cases h3 : (st.length : Int) > 8
      · rw [if_pos h3, decide_eq_false (show ¬ (st.length : Int) ≤ 8 by omega)]
        simp
      · rw [if_neg h3, decide_eq_true (show (st.length : Int) ≤ 8 by omega)]
        cases b3 <;> simp
  · rw [if_neg (by simpa using h1), decide_eq_false h1]
    simp

end Go.Proofs.Ytagmaflnnaonjaa.P
/- How far a cutter lasts, as the reference reckons it. -/
namespace Go.Proofs.Ytagmaflnnaonjaa.P
open Go.RowKit Go.Proofs.Ytagmaflnnaonjaa.P Go.Proofs.YtagmaflnnaonjaaW.PrintWords Go.Proofs.YtagmaflnnaonjaaW.PrintLast Go.Proofs.YtagmaflnnaonjaaW.PrintMore
set_option linter.unusedVariables false
set_option linter.unusedSimpArgs false
theorem specReach_l0 (cs : List S154) (fc st : List Int) (x y : Int) (a : Nat) (ha : a < cs.length) (hb : fc.length ≤ 9223372036854775806) (b : Int) : ∀ (d k i : Nat) (s : Int), i + d = fc.length → d < k → spec_l08Range.l0 k a b s i cs fc st x y = some (wrap64 ((reachGo (rd_T154 cs (a : Int)).f0 (rd_T154 cs (a : Int)).f1 fc d i s : Nat) - b)) := by
  intro d
  induction d with
  | zero =>
    intro k i s hi hk
    obtain ⟨k, rfl⟩ : ∃ m, k = m + 1 := ⟨k - 1, by omega⟩
    simp only [spec_l08Range.l0, reachGo]
    rw [if_neg (by omega)]
  | succ d ih =>
    intro k i s hi hk
    obtain ⟨k, rfl⟩ : ∃ m, k = m + 1 := ⟨k - 1, by omega⟩
    simp only [spec_l08Range.l0, reachGo]
    rw [if_pos (by omega), if_pos (by omega), if_pos (by omega), if_pos (by omega), w64s i (by omega), ih k (i + 1) _ (by omega) (by omega)]
    split <;> rfl
theorem specReach_is (k : Nat) (cs : List S154) (fc st : List Int) (x y : Int) (a b : Nat) (s : Int) (ha : a < cs.length) (hb : fc.length ≤ 9223372036854775806) (hbl : b ≤ fc.length) (hk : fc.length < k) : spec_l08Range.f k cs fc st x y a b s = some (wrap64 ((reachOf cs fc a b s : Nat) - (b : Int))) := by
  unfold spec_l08Range.f reachOf
  exact specReach_l0 cs fc st x y a ha hb b (fc.length - b) k b s (by omega) (by omega)

end Go.Proofs.Ytagmaflnnaonjaa.P
/- The stints of a cutter, as the reference reckons them. -/
namespace Go.Proofs.Ytagmaflnnaonjaa.P
open Go.RowKit Go.Proofs.Ytagmaflnnaonjaa.P Go.Proofs.YtagmaflnnaonjaaW.PrintWords Go.Proofs.YtagmaflnnaonjaaW.PrintLast Go.Proofs.YtagmaflnnaonjaaW.PrintMore
set_option linter.unusedVariables false
set_option linter.unusedSimpArgs false
theorem specStints_l1 (cs : List S154) (fc st : List Int) (x y a b t : Int) (acc : List (List Int)) (hs : st.length ≤ 1048576) : ∀ (d k i : Nat) (c : Int), i + d = st.length → spec_l08Needs.l1 (k + d + 1) a acc b t c i cs fc st x y = (if nextOf st b t d i c < 0 then some ([], false) else (if acc.length < 5864062014805 then spec_l08Needs.l0 k a (acc ++ [[b, t]]) (nextOf st b t d i c) cs fc st x y else none)) := by
  intro d
  induction d with
  | zero =>
    intro k i c hi
    simp only [spec_l08Needs.l1, nextOf]
    rw [if_neg (by omega)]
    rfl
  | succ d ih =>
    intro k i c hi
    have hz := fun c => ih k (i + 1) c (by omega)
    obtain ⟨q, hq⟩ : ∃ q, q = k + d + 1 := ⟨_, rfl⟩
    rw [← hq] at hz
    have e : nextOf st b t (d + 1) i c = nextOf st b t d (i + 1) (if rd st (i : Int) > b then (if rd st (i : Int) ≤ t then rd st (i : Int) else c) else c) := rfl
    rw [show k + (d + 1) + 1 = q + 1 by omega, e]
    simp only [spec_l08Needs.l1]
    rw [if_pos (by omega), if_pos (by omega), w64s i (by omega), hz, hz]
    by_cases h1 : rd st (i : Int) > b
    · by_cases h2 : rd st (i : Int) ≤ t
      · rw [if_pos h1, if_pos h2, if_pos h1, if_pos h2]
      · rw [if_pos h1, if_neg h2, if_pos h1, if_neg h2]
    · rw [if_neg h1, if_neg h1]
theorem specStints_l0 (cs : List S154) (fc st : List Int) (x y : Int) (hb : fc.length ≤ 1048576) (hs : st.length ≤ 1048576) (a : Nat) (ha : a < cs.length) : ∀ (d k b : Nat) (acc : List (List Int)), b ≤ fc.length → fc.length + 1 ≤ b + d → acc.length ≤ b → fc.length + st.length + 5 + d * (st.length + 2) ≤ k → spec_l08Needs.l0 k a acc b cs fc st x y = some (stintsGo cs fc st a d b acc) := by
  intro d
  induction d with
  | zero => intro k b acc h1 h2 h3 h4; omega
  | succ d ih =>
    intro k b acc h1 h2 h3 h4
    have h5 : (d + 1) * (st.length + 2) = d * (st.length + 2) + st.length + 2 := by rw [Nat.succ_mul]; omega
    obtain ⟨k, rfl⟩ : ∃ m, k = m + st.length + 1 + 1 := ⟨k - st.length - 2, by omega⟩
    have hr := reachOf_in cs fc a b 0 h1
    have e : wrap64 ((b : Int) + wrap64 (((reachOf cs fc a b 0 : Nat) : Int) - (b : Int))) = ((reachOf cs fc a b 0 : Nat) : Int) := by
      rw [w64 (((reachOf cs fc a b 0 : Nat) : Int) - (b : Int)) (by omega) (by omega), w64 _ (by omega) (by omega)]; omega
    have hl1 := specStints_l1 cs fc st x y a b ((reachOf cs fc a b 0 : Nat) : Int) acc hs st.length k 0 (-1) (by omega)
    simp only [spec_l08Needs.l0, stintsGo]
    rw [specReach_is _ cs fc st x y a b 0 ha (by omega) h1 (by omega), bind_some_, e]
    by_cases hc : ((reachOf cs fc a b 0 : Nat) : Int) = (fc.length : Int)
    · rw [if_pos hc, if_pos hc]
    · rw [if_neg hc, if_neg hc]
      refine hl1.trans ?_
      rcases nextOf_in st b ((reachOf cs fc a b 0 : Nat) : Int) st.length 0 (-1) with hn | ⟨hn1, hn2⟩
      · rw [if_pos (by omega), if_pos (by omega)]
      · rw [if_neg (by omega), if_pos (by omega), if_neg (by omega)]
        obtain ⟨n, hn⟩ : ∃ n : Nat, nextOf st b ((reachOf cs fc a b 0 : Nat) : Int) st.length 0 (-1) = n := ⟨(nextOf st b ((reachOf cs fc a b 0 : Nat) : Int) st.length 0 (-1)).toNat, by omega⟩
        rw [hn] at hn1 hn2 ⊢
        rw [Int.toNat_natCast]
        exact ih k n _ (by omega) (by omega) (by simp; omega) (by omega)
theorem specStints_is (k : Nat) (cs : List S154) (fc st : List Int) (x y : Int) (hb : fc.length ≤ 1048576) (hs : st.length ≤ 1048576) (a : Nat) (ha : a < cs.length) (hk : fc.length + st.length + 5 + (fc.length + 1) * (st.length + 2) ≤ k) : spec_l08Needs.f k cs fc st x y a = some (stints cs fc st a) := by
  unfold spec_l08Needs.f stints
  exact specStints_l0 cs fc st x y hb hs a ha (fc.length + 1) k 0 [] (by omega) (by omega) (by simp) (by omega)

end Go.Proofs.Ytagmaflnnaonjaa.P
