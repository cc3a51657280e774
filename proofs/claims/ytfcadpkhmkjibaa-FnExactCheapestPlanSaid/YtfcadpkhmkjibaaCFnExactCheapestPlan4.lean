/- What the claim of FnExactCheapestPlan bears, part 4: functions of the program as plain Lean functions, with proofs that the code comes to their answers, and lemmas on them. -/
import Derived.Test.YtfcadpkhmkjibaaCFnExactCheapestPlan0
import Derived.Test.YtfcadpkhmkjibaaCFnExactCheapestPlan1
import Derived.Test.YtfcadpkhmkjibaaCFnExactCheapestPlan2
import Derived.Test.YtfcadpkhmkjibaaCFnExactCheapestPlan3
set_option linter.unusedVariables false
set_option linter.unusedSimpArgs false
namespace Go.Proofs.Ytfcadpkhmkjibaa.P
open Go.RowKit Go.Proofs.YtfcadpkhmkjibaaW.PrintWords Go.Proofs.YtfcadpkhmkjibaaW.PrintLast Go.Proofs.YtfcadpkhmkjibaaW.PrintMore
attribute [local go_sem] max2_int min2_int max_two min_two max_three min_three max_four min_four   -- for this text's walks alone

def spec_CheapestPlan.l0 : Nat → List (S49) → Int → Int → List (S34) → List Int → List Int → Int → Int → Option ((List (S49)) × Int × Bool)
 | 0, _, _, _, _, _, _, _, _ => none
 | k + 1, x5, x6, x7, x692000, x692001, x692002, x692003, x692004 => if 0 ≤ (IntKind.u64.wrap ((x692002.length : Int))) then (if x7 < (shl .i64 1 (IntKind.u64.wrap ((x692002.length : Int)))) then ((spec_l08Some.f k x692000 x692001 x692002 x692003 x692004 x7).bind fun t696 => ((spec_l08For.f k x692000 x692001 x692002 x692003 x692004 t696).bind fun t699 => ((spec_l08Enough.f k x692000 x692001 x692002 x692003 x692004 t699).bind fun t702 => (if t702 = true then ((spec_l08Cost.f k x692000 x692001 x692002 x692003 x692004 t699).bind fun t703 => (if x6 < 0 then (spec_CheapestPlan.l0 k t699 t703 (wrap64 (x7 + 1)) x692000 x692001 x692002 x692003 x692004) else (if t703 < x6 then (spec_CheapestPlan.l0 k t699 t703 (wrap64 (x7 + 1)) x692000 x692001 x692002 x692003 x692004) else (if t703 = x6 then ((spec_l08Rings.f k t699).bind fun t704 => ((spec_l08Rings.f k x5).bind fun t707 => ((spec_l08Less.f k t704 t707).bind fun t710 => (if t710 = true then (spec_CheapestPlan.l0 k t699 t703 (wrap64 (x7 + 1)) x692000 x692001 x692002 x692003 x692004) else (spec_CheapestPlan.l0 k x5 x6 (wrap64 (x7 + 1)) x692000 x692001 x692002 x692003 x692004))))) else (spec_CheapestPlan.l0 k x5 x6 (wrap64 (x7 + 1)) x692000 x692001 x692002 x692003 x692004))))) else (spec_CheapestPlan.l0 k x5 x6 (wrap64 (x7 + 1)) x692000 x692001 x692002 x692003 x692004))))) else (if x6 < 0 then (some (([] : List (S49)), 0, false)) else (some (x5, x6, true)))) else (none)
def spec_CheapestPlan.f (k : Nat) (l0_0 : List (S34)) (l0_1 : List Int) (l0_2 : List Int) (a0_3 : Int) (a0_4 : Int) : Option ((List (S49)) × Int × Bool) := (spec_l08Is.f k l0_0 l0_1 l0_2 a0_3 a0_4).bind fun t692 => (if t692 = true then (spec_CheapestPlan.l0 k (([] : List (S49))) (-1) 0 l0_0 l0_1 l0_2 a0_3 a0_4) else (some (([] : List (S49)), 0, false)))
set_option maxHeartbeats 8000000 in
set_option maxRecDepth 100000 in
theorem spec_CheapestPlan.calls (k : Nat) (A0_0 : Option Addr) (c0_0 : Nat) (l0_0 : List (S34)) (A0_1 : Option Addr) (c0_1 : Nat) (l0_1 : List Int) (A0_2 : Option Addr) (c0_2 : Nat) (l0_2 : List Int) (a0_3 : Int) (a0_4 : Int) (r1 : List (S49)) (r2 : Int) (r3 : Bool) (w : World) (hr0_0 : Kd.C k34 w A0_0 l0_0.length l0_0) (hc0_0 : l0_0.length ≤ c0_0) (hr0_1 : Kd.C (Kd.int .i64) w A0_1 l0_1.length l0_1) (hc0_1 : l0_1.length ≤ c0_1) (hr0_2 : Kd.C (Kd.int .i64) w A0_2 l0_2.length l0_2) (hc0_2 : l0_2.length ≤ c0_2) (h : spec_CheapestPlan.f k l0_0 l0_1 l0_2 a0_3 a0_4 = some (r1, r2, r3)) :
  Calls Try.prog 39 #[.agg #[.slice A0_0 l0_0.length c0_0, .slice A0_1 l0_1.length c0_1, .slice A0_2 l0_2.length c0_2, .int .i64 a0_3, .int .i64 a0_4]] w fun e w' => ∃ v0_ : Value, e = .returned (.tuple #[v0_, .int .i64 r2, .bool r3]) ∧ Kd.S k49 49 w' w.heap.size (fun _ => True) v0_ r1 ∧ Below w.heap.size w w' := by
 have hu27 := Try.underlying27
 have HR0_0 := Aside0.mk hr0_0
 have HC0_0 := Aside0.mk hc0_0
 clear hr0_0 hc0_0
 have HR0_1 := Aside0.mk hr0_1
 have HC0_1 := Aside0.mk hc0_1
 clear hr0_1 hc0_1
 have HR0_2 := Aside0.mk hr0_2
 have HC0_2 := Aside0.mk hc0_2
 clear hr0_2 hc0_2
 have HB := Aside0.mk (Below.refl w.heap.size w)
 have H : ((spec_l08Is.f k l0_0 l0_1 l0_2 a0_3 a0_4).bind fun t692 => (if t692 = true then (spec_CheapestPlan.l0 k (([] : List (S49))) (-1) 0 l0_0 l0_1 l0_2 a0_3 a0_4) else (some (([] : List (S49)), 0, false)))) = some (r1, r2, r3) := h
 clear h
 replace H := Option.bind_eq_some_iff.mp H
 obtain ⟨t692, A20, H⟩ := H
 replace H : (if t692 = true then (spec_CheapestPlan.l0 k (([] : List (S49))) (-1) 0 l0_0 l0_1 l0_2 a0_3 a0_4) else (some (([] : List (S49)), 0, false))) = some (r1, r2, r3) := H
 have A2 := Aside0.mk A20
 clear A20
 by_cases c3 : t692 = true
 ·subst c3
  have H1 : (spec_CheapestPlan.l0 k (([] : List (S49))) (-1) 0 l0_0 l0_1 l0_2 a0_3 a0_4) = some (r1, r2, r3) := by rw [if_pos rfl] at H; exact H
  clear H
  have H := H1
  clear H1
  obtain ⟨y693, hy693⟩ : ∃ y_ : List (S49), y_ = (([] : List (S49))) := ⟨_, rfl⟩
  replace H : (spec_CheapestPlan.l0 k y693 (-1) 0 l0_0 l0_1 l0_2 a0_3 a0_4) = some (r1, r2, r3) := by first | (rw [hy693]; with_reducible exact H) | (have H2_ := (Option.bind_some _ _).symm.trans H; rw [hy693]; with_reducible exact H2_) | (have H2_ := (Option.bind_some _ _).symm.trans H; with_reducible exact H2_) | with_reducible exact H | (rw [hy693]; exact H) | exact H
  have Ny693 := Aside0.mk hy693
  clear hy693
  have H' := Aside0.mk H
  clear H
  go_enter Try.func39, Try.ntmps39
  go_wp2_with (first | ((with_reducible refine gate_dst (N := 1) rfl ?_); refine box_event ?hg (N := 1) ?hd (cs := #[.slice A0_0 l0_0.length c0_0, .slice A0_1 l0_1.length c0_1, .slice A0_2 l0_2.length c0_2, .int .i64 a0_3, .int .i64 a0_4]) (t := 27) ?hr ?_; (case hd => rfl); (case hg => rfl); (case hr => first | (go_simp; done) | (go_simp; rfl)); intro gb691 hg w4 hbox hb; have n0_ := Aside0.mk (below_step (by repeat (first | (with_reducible first | exact HB.out | apply below_alloc | apply pw_below_drewN | apply below_drew1) | exact HB.out)) hb); have n1_ := Aside0.mk (hbox); have n2_ := Aside0.mk ((by rw [hg]; exact (below_size (by repeat (first | (with_reducible first | exact HB.out | apply below_alloc | apply pw_below_drewN | apply below_drew1) | exact HB.out))) : w.heap.size ≤ gb691)); have n3_ := Aside0.mk ((by rw [hg]; exact (below_size (by repeat (first | (with_reducible first | exact HB.out | apply below_alloc | apply pw_below_drewN | apply below_drew1) | exact HB.out))) : w.heap.size ≤ gb691)); clear HB; have HB := n0_; have BK691 := n1_; have GW691 := n2_; have GE691 := n3_; clear n0_ n1_ n2_ n3_; clear hb hbox hg) | ((with_reducible refine gate_callee (f := 60) rfl ?_); refine goesL_ (some 10) rfl rfl Try.func60 (by kernel_rfl) rfl #[.pointer (some ⟨gb691, 0, none⟩)] rfl (by (try simp only [List.map_toArray, List.map_cons, List.map_nil]); first | done | rfl) ?_; (with_reducible refine (spec_l08Is.calls k gb691 A0_0 c0_0 l0_0 A0_1 c0_1 l0_1 A0_2 c0_2 l0_2 a0_3 a0_4 true _ ?side1 ?side2 ?side3 ?side4 ?side5 ?side6 ?side7 A2.out).mono ?_); (case side1 => repeat (first | exact (Kd.C_below HR0_0.out HB.out) | (with_reducible first | refine Kd.C_alloc ?_ _ | refine Kd.C_drewN ?_ _ | refine Kd.C_drew ?_))); (case side2 => exact HC0_0.out); (case side3 => repeat (first | exact (Kd.C_below HR0_1.out HB.out) | (with_reducible first | refine Kd.C_alloc ?_ _ | refine Kd.C_drewN ?_ _ | refine Kd.C_drew ?_))); (case side4 => exact HC0_1.out); (case side5 => repeat (first | exact (Kd.C_below HR0_2.out HB.out) | (with_reducible first | refine Kd.C_alloc ?_ _ | refine Kd.C_drewN ?_ _ | refine Kd.C_drew ?_))); (case side6 => exact HC0_2.out); (case side7 => exact (by (with_reducible repeat (first | refine blk_drewN ?_ _ | refine blk_drew ?_ | refine blk_alloc ?_ _)); exact BK691.out)); rintro e w5 ⟨rfl, hb⟩; (try (have db_ : ∀ {w w' : World}, Drawn0 w w' → Below w.heap.size w w' := (by intro w w' h_; obtain ⟨n_, rfl⟩ := h_; exact pw_below_drewN (Below.refl _ _) _); replace hb := db_ hb; clear db_)); refine ⟨_, rfl, ?_⟩; have n0_ := Aside0.mk (blk_below (g := gb691) (o := .cells #[.slice A0_0 l0_0.length c0_0, .slice A0_1 l0_1.length c0_1, .slice A0_2 l0_2.length c0_2, .int .i64 a0_3, .int .i64 a0_4] 27 (0, 0)) (by (with_reducible repeat (first | refine blk_drewN ?_ _ | refine blk_drew ?_ | refine blk_alloc ?_ _)); exact BK691.out) hb); have n1_ := Aside0.mk (below_step (by repeat (first | (with_reducible first | exact HB.out | apply below_alloc | apply pw_below_drewN | apply below_drew1 | refine below_set ?_ GE691.out) | exact HB.out)) hb); clear BK691; clear HB; have BK691 := n0_; have HB := n1_; clear n0_ n1_; (try clear hb); (try clear hb2); (try clear hk); (try clear hi)) | ((with_reducible refine gate_dst (N := 12) rfl ?_); refine Kd.S_lit k49 _ 49 ?hg (N := 12) ?hd (xs := ([] : List (S49))) (inner := []) (ok := fun _ => True) (okp := fun _ => True) ?hr ?hp (fun _ hk => hk) trivial (Below.refl _ _) (Nat.le_refl _) (by simp) ?_; (case hd => rfl); (case hg => rfl); (case hr => first | (go_simp; done) | (go_simp; rfl)); (case hp => exact (Reps.none _ _)); intro v694 w6 ho7 hb hg_ hnew_; clear hg_ hnew_; (first | rw [← Ny693.out] at ho7 | (simp only [Int.reduceToNat] at ho7; rw [← Ny693.out] at ho7)); have n0_ := Aside0.mk (Kd.S_lower ho7 (below_size (by repeat (first | (with_reducible first | exact HB.out | apply below_alloc | apply pw_below_drewN | apply below_drew1 | refine below_set ?_ GE691.out) | exact HB.out)))); have n1_ := Aside0.mk (blk_below (g := gb691) (o := .cells #[.slice A0_0 l0_0.length c0_0, .slice A0_1 l0_1.length c0_1, .slice A0_2 l0_2.length c0_2, .int .i64 a0_3, .int .i64 a0_4] 27 (0, 0)) (by (with_reducible repeat (first | refine blk_drewN ?_ _ | refine blk_drew ?_ | refine blk_alloc ?_ _)); exact BK691.out) hb); have n2_ := Aside0.mk (below_step (by repeat (first | (with_reducible first | exact HB.out | apply below_alloc | apply pw_below_drewN | apply below_drew1 | refine below_set ?_ GE691.out) | exact HB.out)) hb); clear BK691; clear HB; have HO695 := n0_; have BK691 := n1_; have HB := n2_; clear n0_ n1_ n2_; clear hb ho7))
  go_loopg [5, 6, 7] k (fun kq v5 v6 v7 w' => ∃ (x5_1 : List (S49)) (x6_1 : Int) (x7_1 : Int) (x692003_1 : Int) (x692004_1 : Int), v6 = .int .i64 x6_1 ∧ v7 = .int .i64 x7_1 ∧ Aside0 (spec_CheapestPlan.l0 kq x5_1 x6_1 x7_1 l0_0 l0_1 l0_2 x692003_1 x692004_1 = some (r1, r2, r3)) ∧ Aside0 (kq ≤ k) ∧ Aside0 (Kd.S k49 49 w' w.heap.size (fun _ => True) v5 x5_1) ∧ Aside0 (w'.heap[gb691]? = some (.cells #[(.slice A0_0 l0_0.length c0_0), (.slice A0_1 l0_1.length c0_1), (.slice A0_2 l0_2.length c0_2), .int .i64 x692003_1, .int .i64 x692004_1] 27 (0, 0))) ∧ Aside0 (Below w.heap.size w w'))
  case atStart => exact ⟨(y693), ((-1)), (0), (a0_3), (a0_4), (by first | rfl | (simp; done) | (simp [*]; done) | (simp [tz_, *]; done)), (by first | rfl | (simp; done) | (simp [*]; done) | (simp [tz_, *]; done)), H', ⟨Nat.le_refl _⟩, ⟨by (with_reducible repeat (first | apply Kd.S_alloc | apply Kd.S_drewN | apply Kd.S_drew)); exact HO695.out⟩, ⟨by (with_reducible repeat (first | refine blk_drewN ?_ _ | refine blk_drew ?_ | refine blk_alloc ?_ _)); exact BK691.out⟩, ⟨by repeat (first | (with_reducible first | exact HB.out | apply below_alloc | apply pw_below_drewN | apply below_drew1 | refine below_set ?_ GE691.out) | exact HB.out)⟩⟩
  case round =>
   clear H'
   try clear p2
   try clear c3
   try clear c6
   obtain ⟨x5_1, x6_1, x7_1, x692003_1, x692004_1, rfl, rfl, HA, HK1, HO_5, BK691, HB⟩ := hrel
   cases gk with
   | zero => exact absurd HA.out (by simp [spec_CheapestPlan.l0])
   | succ k1 =>
    have H := HA.out
    clear HA
    simp only [spec_CheapestPlan.l0] at H
    obtain ⟨ji8, hji8⟩ : ∃ j_ : Int, (IntKind.u64.wrap ((l0_2.length : Int))) = j_ := ⟨_, rfl⟩
    replace H : (if 0 ≤ (ji8) then (if x7_1 < (shl .i64 1 (ji8)) then ((spec_l08Some.f k1 l0_0 l0_1 l0_2 x692003_1 x692004_1 x7_1).bind fun t696 => ((spec_l08For.f k1 l0_0 l0_1 l0_2 x692003_1 x692004_1 t696).bind fun t699 => ((spec_l08Enough.f k1 l0_0 l0_1 l0_2 x692003_1 x692004_1 t699).bind fun t702 => (if t702 = true then ((spec_l08Cost.f k1 l0_0 l0_1 l0_2 x692003_1 x692004_1 t699).bind fun t703 => (if x6_1 < 0 then (spec_CheapestPlan.l0 k1 t699 t703 (wrap64 (x7_1 + 1)) l0_0 l0_1 l0_2 x692003_1 x692004_1) else (if t703 < x6_1 then (spec_CheapestPlan.l0 k1 t699 t703 (wrap64 (x7_1 + 1)) l0_0 l0_1 l0_2 x692003_1 x692004_1) else (if t703 = x6_1 then ((spec_l08Rings.f k1 t699).bind fun t704 => ((spec_l08Rings.f k1 x5_1).bind fun t707 => ((spec_l08Less.f k1 t704 t707).bind fun t710 => (if t710 = true then (spec_CheapestPlan.l0 k1 t699 t703 (wrap64 (x7_1 + 1)) l0_0 l0_1 l0_2 x692003_1 x692004_1) else (spec_CheapestPlan.l0 k1 x5_1 x6_1 (wrap64 (x7_1 + 1)) l0_0 l0_1 l0_2 x692003_1 x692004_1))))) else (spec_CheapestPlan.l0 k1 x5_1 x6_1 (wrap64 (x7_1 + 1)) l0_0 l0_1 l0_2 x692003_1 x692004_1))))) else (spec_CheapestPlan.l0 k1 x5_1 x6_1 (wrap64 (x7_1 + 1)) l0_0 l0_1 l0_2 x692003_1 x692004_1))))) else (if x6_1 < 0 then (some (([] : List (S49)), 0, false)) else (some (x5_1, x6_1, true)))) else (none)) = some (r1, r2, r3) := by first | (rw [hji8] at H; exact H) | (simp only [hji8] at H ⊢; exact H)
    by_cases c9 : 0 ≤ (ji8)
    ·rw [if_pos c9] at H
     have c9b0 := eq_true c9
     have c9b1 : decide (0 ≤ (ji8)) = true := decide_eq_true c9
     clear c9
     obtain ⟨ji10, hji10⟩ : ∃ j_ : Int, (shl .i64 1 (ji8)) = j_ := ⟨_, rfl⟩
     replace H : (if x7_1 < (ji10) then ((spec_l08Some.f k1 l0_0 l0_1 l0_2 x692003_1 x692004_1 x7_1).bind fun t696 => ((spec_l08For.f k1 l0_0 l0_1 l0_2 x692003_1 x692004_1 t696).bind fun t699 => ((spec_l08Enough.f k1 l0_0 l0_1 l0_2 x692003_1 x692004_1 t699).bind fun t702 => (if t702 = true then ((spec_l08Cost.f k1 l0_0 l0_1 l0_2 x692003_1 x692004_1 t699).bind fun t703 => (if x6_1 < 0 then (spec_CheapestPlan.l0 k1 t699 t703 (wrap64 (x7_1 + 1)) l0_0 l0_1 l0_2 x692003_1 x692004_1) else (if t703 < x6_1 then (spec_CheapestPlan.l0 k1 t699 t703 (wrap64 (x7_1 + 1)) l0_0 l0_1 l0_2 x692003_1 x692004_1) else (if t703 = x6_1 then ((spec_l08Rings.f k1 t699).bind fun t704 => ((spec_l08Rings.f k1 x5_1).bind fun t707 => ((spec_l08Less.f k1 t704 t707).bind fun t710 => (if t710 = true then (spec_CheapestPlan.l0 k1 t699 t703 (wrap64 (x7_1 + 1)) l0_0 l0_1 l0_2 x692003_1 x692004_1) else (spec_CheapestPlan.l0 k1 x5_1 x6_1 (wrap64 (x7_1 + 1)) l0_0 l0_1 l0_2 x692003_1 x692004_1))))) else (spec_CheapestPlan.l0 k1 x5_1 x6_1 (wrap64 (x7_1 + 1)) l0_0 l0_1 l0_2 x692003_1 x692004_1))))) else (spec_CheapestPlan.l0 k1 x5_1 x6_1 (wrap64 (x7_1 + 1)) l0_0 l0_1 l0_2 x692003_1 x692004_1))))) else (if x6_1 < 0 then (some (([] : List (S49)), 0, false)) else (some (x5_1, x6_1, true)))) = some (r1, r2, r3) := by first | (rw [hji10] at H; exact H) | (simp only [hji10] at H ⊢; exact H)
     have hji10_ : (IntKind.i64.wrap (1 * 2 ^ min (ji8).toNat 64)) = ji10 := hji10
     have hji10z : (ji8) ≤ 64 → (IntKind.i64.wrap (1 * 2 ^ (ji8).toNat)) = ji10 := shl_small hji10
     have hji10u : (IntKind.i64.wrap (2 ^ min (ji8).toNat 64)) = ji10 := by have h_ := hji10_; rw [Int.one_mul] at h_; exact h_
     have hji10v : (ji8) ≤ 64 → (IntKind.i64.wrap (2 ^ (ji8).toNat)) = ji10 := fun hle_ => by have h_ := hji10z hle_; rw [Int.one_mul] at h_; exact h_
     have hji10y : (wrap64 (1 * 2 ^ min (ji8).toNat 64)) = ji10 := (i64_w _).symm.trans hji10_
     have hji10x : (ji8) ≤ 64 → (wrap64 (1 * 2 ^ (ji8).toNat)) = ji10 := fun h_ => (i64_w _).symm.trans (hji10z h_)
     by_cases c11 : x7_1 < (ji10)
     ·rw [if_pos c11] at H
      have c11b0 : decide (x7_1 < (ji10)) = true := decide_eq_true c11
      clear c11
      replace H := Option.bind_eq_some_iff.mp H
      obtain ⟨t696, A120, H⟩ := H
      replace H : ((spec_l08For.f k1 l0_0 l0_1 l0_2 x692003_1 x692004_1 t696).bind fun t699 => ((spec_l08Enough.f k1 l0_0 l0_1 l0_2 x692003_1 x692004_1 t699).bind fun t702 => (if t702 = true then ((spec_l08Cost.f k1 l0_0 l0_1 l0_2 x692003_1 x692004_1 t699).bind fun t703 => (if x6_1 < 0 then (spec_CheapestPlan.l0 k1 t699 t703 (wrap64 (x7_1 + 1)) l0_0 l0_1 l0_2 x692003_1 x692004_1) else (if t703 < x6_1 then (spec_CheapestPlan.l0 k1 t699 t703 (wrap64 (x7_1 + 1)) l0_0 l0_1 l0_2 x692003_1 x692004_1) else (if t703 = x6_1 then ((spec_l08Rings.f k1 t699).bind fun t704 => ((spec_l08Rings.f k1 x5_1).bind fun t707 => ((spec_l08Less.f k1 t704 t707).bind fun t710 => (if t710 = true then (spec_CheapestPlan.l0 k1 t699 t703 (wrap64 (x7_1 + 1)) l0_0 l0_1 l0_2 x692003_1 x692004_1) else (spec_CheapestPlan.l0 k1 x5_1 x6_1 (wrap64 (x7_1 + 1)) l0_0 l0_1 l0_2 x692003_1 x692004_1))))) else (spec_CheapestPlan.l0 k1 x5_1 x6_1 (wrap64 (x7_1 + 1)) l0_0 l0_1 l0_2 x692003_1 x692004_1))))) else (spec_CheapestPlan.l0 k1 x5_1 x6_1 (wrap64 (x7_1 + 1)) l0_0 l0_1 l0_2 x692003_1 x692004_1)))) = some (r1, r2, r3) := H
      have A12 := Aside0.mk A120
      clear A120
      replace H := Option.bind_eq_some_iff.mp H
      obtain ⟨t699, A130, H⟩ := H
      replace H : ((spec_l08Enough.f k1 l0_0 l0_1 l0_2 x692003_1 x692004_1 t699).bind fun t702 => (if t702 = true then ((spec_l08Cost.f k1 l0_0 l0_1 l0_2 x692003_1 x692004_1 t699).bind fun t703 => (if x6_1 < 0 then (spec_CheapestPlan.l0 k1 t699 t703 (wrap64 (x7_1 + 1)) l0_0 l0_1 l0_2 x692003_1 x692004_1) else (if t703 < x6_1 then (spec_CheapestPlan.l0 k1 t699 t703 (wrap64 (x7_1 + 1)) l0_0 l0_1 l0_2 x692003_1 x692004_1) else (if t703 = x6_1 then ((spec_l08Rings.f k1 t699).bind fun t704 => ((spec_l08Rings.f k1 x5_1).bind fun t707 => ((spec_l08Less.f k1 t704 t707).bind fun t710 => (if t710 = true then (spec_CheapestPlan.l0 k1 t699 t703 (wrap64 (x7_1 + 1)) l0_0 l0_1 l0_2 x692003_1 x692004_1) else (spec_CheapestPlan.l0 k1 x5_1 x6_1 (wrap64 (x7_1 + 1)) l0_0 l0_1 l0_2 x692003_1 x692004_1))))) else (spec_CheapestPlan.l0 k1 x5_1 x6_1 (wrap64 (x7_1 + 1)) l0_0 l0_1 l0_2 x692003_1 x692004_1))))) else (spec_CheapestPlan.l0 k1 x5_1 x6_1 (wrap64 (x7_1 + 1)) l0_0 l0_1 l0_2 x692003_1 x692004_1))) = some (r1, r2, r3) := H
      have A13 := Aside0.mk A130
      clear A130
      replace H := Option.bind_eq_some_iff.mp H
      obtain ⟨t702, A140, H⟩ := H
      replace H : (if t702 = true then ((spec_l08Cost.f k1 l0_0 l0_1 l0_2 x692003_1 x692004_1 t699).bind fun t703 => (if x6_1 < 0 then (spec_CheapestPlan.l0 k1 t699 t703 (wrap64 (x7_1 + 1)) l0_0 l0_1 l0_2 x692003_1 x692004_1) else (if t703 < x6_1 then (spec_CheapestPlan.l0 k1 t699 t703 (wrap64 (x7_1 + 1)) l0_0 l0_1 l0_2 x692003_1 x692004_1) else (if t703 = x6_1 then ((spec_l08Rings.f k1 t699).bind fun t704 => ((spec_l08Rings.f k1 x5_1).bind fun t707 => ((spec_l08Less.f k1 t704 t707).bind fun t710 => (if t710 = true then (spec_CheapestPlan.l0 k1 t699 t703 (wrap64 (x7_1 + 1)) l0_0 l0_1 l0_2 x692003_1 x692004_1) else (spec_CheapestPlan.l0 k1 x5_1 x6_1 (wrap64 (x7_1 + 1)) l0_0 l0_1 l0_2 x692003_1 x692004_1))))) else (spec_CheapestPlan.l0 k1 x5_1 x6_1 (wrap64 (x7_1 + 1)) l0_0 l0_1 l0_2 x692003_1 x692004_1))))) else (spec_CheapestPlan.l0 k1 x5_1 x6_1 (wrap64 (x7_1 + 1)) l0_0 l0_1 l0_2 x692003_1 x692004_1)) = some (r1, r2, r3) := H
      have A14 := Aside0.mk A140
      clear A140
      by_cases c15 : t702 = true
      ·subst c15
       have H1 : ((spec_l08Cost.f k1 l0_0 l0_1 l0_2 x692003_1 x692004_1 t699).bind fun t703 => (if x6_1 < 0 then (spec_CheapestPlan.l0 k1 t699 t703 (wrap64 (x7_1 + 1)) l0_0 l0_1 l0_2 x692003_1 x692004_1) else (if t703 < x6_1 then (spec_CheapestPlan.l0 k1 t699 t703 (wrap64 (x7_1 + 1)) l0_0 l0_1 l0_2 x692003_1 x692004_1) else (if t703 = x6_1 then ((spec_l08Rings.f k1 t699).bind fun t704 => ((spec_l08Rings.f k1 x5_1).bind fun t707 => ((spec_l08Less.f k1 t704 t707).bind fun t710 => (if t710 = true then (spec_CheapestPlan.l0 k1 t699 t703 (wrap64 (x7_1 + 1)) l0_0 l0_1 l0_2 x692003_1 x692004_1) else (spec_CheapestPlan.l0 k1 x5_1 x6_1 (wrap64 (x7_1 + 1)) l0_0 l0_1 l0_2 x692003_1 x692004_1))))) else (spec_CheapestPlan.l0 k1 x5_1 x6_1 (wrap64 (x7_1 + 1)) l0_0 l0_1 l0_2 x692003_1 x692004_1))))) = some (r1, r2, r3) := by rw [if_pos rfl] at H; exact H
       clear H
       have H := H1
       clear H1
       replace H := Option.bind_eq_some_iff.mp H
       obtain ⟨t703, A160, H⟩ := H
       replace H : (if x6_1 < 0 then (spec_CheapestPlan.l0 k1 t699 t703 (wrap64 (x7_1 + 1)) l0_0 l0_1 l0_2 x692003_1 x692004_1) else (if t703 < x6_1 then (spec_CheapestPlan.l0 k1 t699 t703 (wrap64 (x7_1 + 1)) l0_0 l0_1 l0_2 x692003_1 x692004_1) else (if t703 = x6_1 then ((spec_l08Rings.f k1 t699).bind fun t704 => ((spec_l08Rings.f k1 x5_1).bind fun t707 => ((spec_l08Less.f k1 t704 t707).bind fun t710 => (if t710 = true then (spec_CheapestPlan.l0 k1 t699 t703 (wrap64 (x7_1 + 1)) l0_0 l0_1 l0_2 x692003_1 x692004_1) else (spec_CheapestPlan.l0 k1 x5_1 x6_1 (wrap64 (x7_1 + 1)) l0_0 l0_1 l0_2 x692003_1 x692004_1))))) else (spec_CheapestPlan.l0 k1 x5_1 x6_1 (wrap64 (x7_1 + 1)) l0_0 l0_1 l0_2 x692003_1 x692004_1)))) = some (r1, r2, r3) := H
       have A16 := Aside0.mk A160
       clear A160
       by_cases c17 : x6_1 < 0
       ·rw [if_pos c17] at H
        have c17b0 : decide (x6_1 < 0) = true := decide_eq_true c17
        clear c17
        have H' := Aside0.mk H
        clear H
        have hcz18_0 : wr.cell? ⟨gb691, 0, none⟩ = some (.slice A0_0 l0_0.length c0_0) := (blk_cell BK691.out 0).trans rfl
        have hcz18_1 : wr.cell? ⟨gb691, 1, none⟩ = some (.slice A0_1 l0_1.length c0_1) := (blk_cell BK691.out 1).trans rfl
        have hcz18_2 : wr.cell? ⟨gb691, 2, none⟩ = some (.slice A0_2 l0_2.length c0_2) := (blk_cell BK691.out 2).trans rfl
        have hcz18_3 : wr.cell? ⟨gb691, 3, none⟩ = some (.int .i64 x692003_1) := (blk_cell BK691.out 3).trans rfl
        have hcz18_4 : wr.cell? ⟨gb691, 4, none⟩ = some (.int .i64 x692004_1) := (blk_cell BK691.out 4).trans rfl
        have hfz18_0 := blk_frozen BK691.out 0
        have hfz18_1 := blk_frozen BK691.out 1
        have hfz18_2 := blk_frozen BK691.out 2
        have hfz18_3 := blk_frozen BK691.out 3
        have hfz18_4 := blk_frozen BK691.out 4
        go_wp2_with (first | ((with_reducible refine gate_callee (f := 74) rfl ?_); refine goesL_ (some 23) rfl rfl Try.func74 (by kernel_rfl) rfl #[.pointer (some ⟨gb691, 0, none⟩), .int .i64 x7_1] rfl (by (try simp only [List.map_toArray, List.map_cons, List.map_nil]); first | done | rfl) ?_; (with_reducible refine (spec_l08Some.calls k1 gb691 A0_0 c0_0 l0_0 A0_1 c0_1 l0_1 A0_2 c0_2 l0_2 x692003_1 x692004_1 x7_1 t696 _ ?side1 ?side2 ?side3 ?side4 ?side5 ?side6 ?side7 A12.out).mono ?_); (case side1 => repeat (first | exact (Kd.C_below HR0_0.out HB.out) | (with_reducible first | refine Kd.C_alloc ?_ _ | refine Kd.C_drewN ?_ _ | refine Kd.C_drew ?_))); (case side2 => exact HC0_0.out); (case side3 => repeat (first | exact (Kd.C_below HR0_1.out HB.out) | (with_reducible first | refine Kd.C_alloc ?_ _ | refine Kd.C_drewN ?_ _ | refine Kd.C_drew ?_))); (case side4 => exact HC0_1.out); (case side5 => repeat (first | exact (Kd.C_below HR0_2.out HB.out) | (with_reducible first | refine Kd.C_alloc ?_ _ | refine Kd.C_drewN ?_ _ | refine Kd.C_drew ?_))); (case side6 => exact HC0_2.out); (case side7 => exact (by (with_reducible repeat (first | refine blk_drewN ?_ _ | refine blk_drew ?_ | refine blk_alloc ?_ _)); exact BK691.out)); rintro e w19 ⟨v697, rfl, ho0, hb⟩; refine ⟨_, rfl, ?_⟩; have n0_ := Aside0.mk (Kd.S_elder' (by (with_reducible repeat (first | apply Kd.S_alloc | apply Kd.S_drewN | apply Kd.S_drew)); exact HO_5.out) (Kd.R_base ho0) hb); have n1_ := Aside0.mk (Kd.R_lower ho0 (below_size (by repeat (first | (with_reducible first | exact HB.out | apply below_alloc | apply pw_below_drewN | apply below_drew1 | refine below_set ?_ GE691.out) | exact HB.out)))); have n2_ := Aside0.mk (blk_below (g := gb691) (o := .cells #[.slice A0_0 l0_0.length c0_0, .slice A0_1 l0_1.length c0_1, .slice A0_2 l0_2.length c0_2, .int .i64 x692003_1, .int .i64 x692004_1] 27 (0, 0)) (by (with_reducible repeat (first | refine blk_drewN ?_ _ | refine blk_drew ?_ | refine blk_alloc ?_ _)); exact BK691.out) hb); have n3_ := Aside0.mk (below_step (by repeat (first | (with_reducible first | exact HB.out | apply below_alloc | apply pw_below_drewN | apply below_drew1 | refine below_set ?_ GE691.out) | exact HB.out)) hb); clear HO_5; clear BK691; clear HB; have HO_5 := n0_; have HO698 := n1_; have BK691 := n2_; have HB := n3_; clear n0_ n1_ n2_ n3_; (try clear hb); (try clear hb2); (try clear hk); (try clear hi); (try clear ho0); obtain ⟨Ao20, co20, eo20⟩ := Kd.R_slice HO698.out; subst eo20) | ((with_reducible refine gate_callee (f := 72) rfl ?_); refine goesL_ (some 24) rfl rfl Try.func72 (by kernel_rfl) rfl #[.pointer (some ⟨gb691, 0, none⟩), .slice Ao20 t696.length co20] rfl (by (try simp only [List.map_toArray, List.map_cons, List.map_nil]); first | done | rfl) ?_; (with_reducible refine (spec_l08For.calls k1 gb691 A0_0 c0_0 l0_0 A0_1 c0_1 l0_1 A0_2 c0_2 l0_2 x692003_1 x692004_1 _ _ t696 t699 _ ?side1 ?side2 ?side3 ?side4 ?side5 ?side6 ?side7 ?side8 ?side9 A13.out).mono ?_); (case side1 => repeat (first | exact (Kd.C_below HR0_0.out HB.out) | (with_reducible first | refine Kd.C_alloc ?_ _ | refine Kd.C_drewN ?_ _ | refine Kd.C_drew ?_))); (case side2 => exact HC0_0.out); (case side3 => repeat (first | exact (Kd.C_below HR0_1.out HB.out) | (with_reducible first | refine Kd.C_alloc ?_ _ | refine Kd.C_drewN ?_ _ | refine Kd.C_drew ?_))); (case side4 => exact HC0_1.out); (case side5 => repeat (first | exact (Kd.C_below HR0_2.out HB.out) | (with_reducible first | refine Kd.C_alloc ?_ _ | refine Kd.C_drewN ?_ _ | refine Kd.C_drew ?_))); (case side6 => exact HC0_2.out); (case side7 => repeat (first | exact (Kd.R_reads' HO698.out).2.2 | (with_reducible first | refine Kd.C_alloc ?_ _ | refine Kd.C_drewN ?_ _ | refine Kd.C_drew ?_))); (case side8 => exact (Kd.R_reads' HO698.out).2.1); (case side9 => exact (by (with_reducible repeat (first | refine blk_drewN ?_ _ | refine blk_drew ?_ | refine blk_alloc ?_ _)); exact BK691.out)); rintro e w21 ⟨v700, rfl, ho0, hb⟩; refine ⟨_, rfl, ?_⟩; have n0_ := Aside0.mk (Kd.S_elder' (by (with_reducible repeat (first | apply Kd.S_alloc | apply Kd.S_drewN | apply Kd.S_drew)); exact HO_5.out) (Kd.S_base ho0) hb); have n1_ := Aside0.mk (Kd.R_below (by (with_reducible repeat (first | apply Kd.R_alloc | apply Kd.R_drewN | apply Kd.R_drew)); exact HO698.out) hb); have n2_ := Aside0.mk (Kd.S_lower (Kd.S_new' (Kd.S_new' ho0 (Kd.S_lt (by (with_reducible repeat (first | apply Kd.S_alloc | apply Kd.S_drewN | apply Kd.S_drew)); exact HO_5.out))) (Kd.R_lt (by (with_reducible repeat (first | apply Kd.R_alloc | apply Kd.R_drewN | apply Kd.R_drew)); exact HO698.out))) (below_size (by repeat (first | (with_reducible first | exact HB.out | apply below_alloc | apply pw_below_drewN | apply below_drew1 | refine below_set ?_ GE691.out) | exact HB.out)))); have n3_ := Aside0.mk (blk_below (g := gb691) (o := .cells #[.slice A0_0 l0_0.length c0_0, .slice A0_1 l0_1.length c0_1, .slice A0_2 l0_2.length c0_2, .int .i64 x692003_1, .int .i64 x692004_1] 27 (0, 0)) (by (with_reducible repeat (first | refine blk_drewN ?_ _ | refine blk_drew ?_ | refine blk_alloc ?_ _)); exact BK691.out) hb); have n4_ := Aside0.mk (below_step (by repeat (first | (with_reducible first | exact HB.out | apply below_alloc | apply pw_below_drewN | apply below_drew1 | refine below_set ?_ GE691.out) | exact HB.out)) hb); clear HO_5; clear HO698; clear BK691; clear HB; have HO_5 := n0_; have HO698 := n1_; have HO701 := n2_; have BK691 := n3_; have HB := n4_; clear n0_ n1_ n2_ n3_ n4_; (try clear hb); (try clear hb2); (try clear hk); (try clear hi); (try clear ho0); obtain ⟨Ao22, co22, eo22⟩ := Kd.S_slice HO701.out; subst eo22) | ((with_reducible refine gate_callee (f := 73) rfl ?_); refine goesL_ (some 26) rfl rfl Try.func73 (by kernel_rfl) rfl #[.pointer (some ⟨gb691, 0, none⟩), .slice Ao22 t699.length co22] rfl (by (try simp only [List.map_toArray, List.map_cons, List.map_nil]); first | done | rfl) ?_; (with_reducible refine (spec_l08Enough.calls k1 gb691 A0_0 c0_0 l0_0 A0_1 c0_1 l0_1 A0_2 c0_2 l0_2 x692003_1 x692004_1 _ _ t699 true _ ?side1 ?side2 ?side3 ?side4 ?side5 ?side6 ?side7 ?side8 ?side9 A14.out).mono ?_); (case side1 => repeat (first | exact (Kd.C_below HR0_0.out HB.out) | (with_reducible first | refine Kd.C_alloc ?_ _ | refine Kd.C_drewN ?_ _ | refine Kd.C_drew ?_))); (case side2 => exact HC0_0.out); (case side3 => repeat (first | exact (Kd.C_below HR0_1.out HB.out) | (with_reducible first | refine Kd.C_alloc ?_ _ | refine Kd.C_drewN ?_ _ | refine Kd.C_drew ?_))); (case side4 => exact HC0_1.out); (case side5 => repeat (first | exact (Kd.C_below HR0_2.out HB.out) | (with_reducible first | refine Kd.C_alloc ?_ _ | refine Kd.C_drewN ?_ _ | refine Kd.C_drew ?_))); (case side6 => exact HC0_2.out); (case side7 => repeat (first | exact (Kd.S_reads' HO701.out).2.2 | (with_reducible first | refine Kd.C_alloc ?_ _ | refine Kd.C_drewN ?_ _ | refine Kd.C_drew ?_))); (case side8 => exact (Kd.S_reads' HO701.out).2.1); (case side9 => exact (by (with_reducible repeat (first | refine blk_drewN ?_ _ | refine blk_drew ?_ | refine blk_alloc ?_ _)); exact BK691.out)); rintro e w23 ⟨rfl, hb⟩; refine ⟨_, rfl, ?_⟩; have n0_ := Aside0.mk (Kd.S_below (by (with_reducible repeat (first | apply Kd.S_alloc | apply Kd.S_drewN | apply Kd.S_drew)); exact HO_5.out) hb); have n1_ := Aside0.mk (Kd.R_below (by (with_reducible repeat (first | apply Kd.R_alloc | apply Kd.R_drewN | apply Kd.R_drew)); exact HO698.out) hb); have n2_ := Aside0.mk (Kd.S_below (by (with_reducible repeat (first | apply Kd.S_alloc | apply Kd.S_drewN | apply Kd.S_drew)); exact HO701.out) hb); have n3_ := Aside0.mk (blk_below (g := gb691) (o := .cells #[.slice A0_0 l0_0.length c0_0, .slice A0_1 l0_1.length c0_1, .slice A0_2 l0_2.length c0_2, .int .i64 x692003_1, .int .i64 x692004_1] 27 (0, 0)) (by (with_reducible repeat (first | refine blk_drewN ?_ _ | refine blk_drew ?_ | refine blk_alloc ?_ _)); exact BK691.out) hb); have n4_ := Aside0.mk (below_step (by repeat (first | (with_reducible first | exact HB.out | apply below_alloc | apply pw_below_drewN | apply below_drew1 | refine below_set ?_ GE691.out) | exact HB.out)) hb); clear HO_5; clear HO698; clear HO701; clear BK691; clear HB; have HO_5 := n0_; have HO698 := n1_; have HO701 := n2_; have BK691 := n3_; have HB := n4_; clear n0_ n1_ n2_ n3_ n4_; (try clear hb); (try clear hb2); (try clear hk); (try clear hi)) | ((with_reducible refine gate_callee (f := 75) rfl ?_); refine goesL_ (some 29) rfl rfl Try.func75 (by kernel_rfl) rfl #[.pointer (some ⟨gb691, 0, none⟩), .slice Ao22 t699.length co22] rfl (by (try simp only [List.map_toArray, List.map_cons, List.map_nil]); first | done | rfl) ?_; (with_reducible refine (spec_l08Cost.calls k1 gb691 A0_0 c0_0 l0_0 A0_1 c0_1 l0_1 A0_2 c0_2 l0_2 x692003_1 x692004_1 _ _ t699 t703 _ ?side1 ?side2 ?side3 ?side4 ?side5 ?side6 ?side7 ?side8 ?side9 A16.out).mono ?_); (case side1 => repeat (first | exact (Kd.C_below HR0_0.out HB.out) | (with_reducible first | refine Kd.C_alloc ?_ _ | refine Kd.C_drewN ?_ _ | refine Kd.C_drew ?_))); (case side2 => exact HC0_0.out); (case side3 => repeat (first | exact (Kd.C_below HR0_1.out HB.out) | (with_reducible first | refine Kd.C_alloc ?_ _ | refine Kd.C_drewN ?_ _ | refine Kd.C_drew ?_))); (case side4 => exact HC0_1.out); (case side5 => repeat (first | exact (Kd.C_below HR0_2.out HB.out) | (with_reducible first | refine Kd.C_alloc ?_ _ | refine Kd.C_drewN ?_ _ | refine Kd.C_drew ?_))); (case side6 => exact HC0_2.out); (case side7 => repeat (first | exact (Kd.S_reads' HO701.out).2.2 | (with_reducible first | refine Kd.C_alloc ?_ _ | refine Kd.C_drewN ?_ _ | refine Kd.C_drew ?_))); (case side8 => exact (Kd.S_reads' HO701.out).2.1); (case side9 => exact (by (with_reducible repeat (first | refine blk_drewN ?_ _ | refine blk_drew ?_ | refine blk_alloc ?_ _)); exact BK691.out)); rintro e w24 ⟨rfl, hb⟩; (try (have db_ : ∀ {w w' : World}, Drawn0 w w' → Below w.heap.size w w' := (by intro w w' h_; obtain ⟨n_, rfl⟩ := h_; exact pw_below_drewN (Below.refl _ _) _); replace hb := db_ hb; clear db_)); refine ⟨_, rfl, ?_⟩; have n0_ := Aside0.mk (Kd.S_below (by (with_reducible repeat (first | apply Kd.S_alloc | apply Kd.S_drewN | apply Kd.S_drew)); exact HO_5.out) hb); have n1_ := Aside0.mk (Kd.R_below (by (with_reducible repeat (first | apply Kd.R_alloc | apply Kd.R_drewN | apply Kd.R_drew)); exact HO698.out) hb); have n2_ := Aside0.mk (Kd.S_below (by (with_reducible repeat (first | apply Kd.S_alloc | apply Kd.S_drewN | apply Kd.S_drew)); exact HO701.out) hb); have n3_ := Aside0.mk (blk_below (g := gb691) (o := .cells #[.slice A0_0 l0_0.length c0_0, .slice A0_1 l0_1.length c0_1, .slice A0_2 l0_2.length c0_2, .int .i64 x692003_1, .int .i64 x692004_1] 27 (0, 0)) (by (with_reducible repeat (first | refine blk_drewN ?_ _ | refine blk_drew ?_ | refine blk_alloc ?_ _)); exact BK691.out) hb); have n4_ := Aside0.mk (below_step (by repeat (first | (with_reducible first | exact HB.out | apply below_alloc | apply pw_below_drewN | apply below_drew1 | refine below_set ?_ GE691.out) | exact HB.out)) hb); clear HO_5; clear HO698; clear HO701; clear BK691; clear HB; have HO_5 := n0_; have HO698 := n1_; have HO701 := n2_; have BK691 := n3_; have HB := n4_; clear n0_ n1_ n2_ n3_ n4_; (try clear hb); (try clear hb2); (try clear hk); (try clear hi)))
        go_roundg k1
        case measure => have := HK1.out; omega
        case rel => exact ⟨(t699), (t703), (wrap64 (x7_1 + 1)), (x692003_1), (x692004_1), (by first | rfl | (simp; done) | (simp [*]; done) | (simp [tz_, *]; done)), (by first | rfl | (simp; done) | (simp [*]; done) | (simp [tz_, *]; done)), H', ⟨by have := HK1.out; omega⟩, ⟨by (with_reducible repeat (first | apply Kd.S_alloc | apply Kd.S_drewN | apply Kd.S_drew)); exact Kd.S_mono HO701.out (fun _ hk => trivial)⟩, ⟨by (with_reducible repeat (first | refine blk_drewN ?_ _ | refine blk_drew ?_ | refine blk_alloc ?_ _)); exact BK691.out⟩, ⟨by repeat (first | (with_reducible first | exact HB.out | apply below_alloc | apply pw_below_drewN | apply below_drew1 | refine below_set ?_ GE691.out) | exact HB.out)⟩⟩
       ·rw [if_neg c17] at H
        have c17b0 : decide (x6_1 < 0) = false := decide_eq_false c17
        clear c17
        by_cases c25 : t703 < x6_1
        ·rw [if_pos c25] at H
         have c25b0 : decide (t703 < x6_1) = true := decide_eq_true c25
         clear c25
         have H' := Aside0.mk H
         clear H
         have hcz26_0 : wr.cell? ⟨gb691, 0, none⟩ = some (.slice A0_0 l0_0.length c0_0) := (blk_cell BK691.out 0).trans rfl
         have hcz26_1 : wr.cell? ⟨gb691, 1, none⟩ = some (.slice A0_1 l0_1.length c0_1) := (blk_cell BK691.out 1).trans rfl
         have hcz26_2 : wr.cell? ⟨gb691, 2, none⟩ = some (.slice A0_2 l0_2.length c0_2) := (blk_cell BK691.out 2).trans rfl
         have hcz26_3 : wr.cell? ⟨gb691, 3, none⟩ = some (.int .i64 x692003_1) := (blk_cell BK691.out 3).trans rfl
         have hcz26_4 : wr.cell? ⟨gb691, 4, none⟩ = some (.int .i64 x692004_1) := (blk_cell BK691.out 4).trans rfl
         have hfz26_0 := blk_frozen BK691.out 0
         have hfz26_1 := blk_frozen BK691.out 1
         have hfz26_2 := blk_frozen BK691.out 2
         have hfz26_3 := blk_frozen BK691.out 3
         have hfz26_4 := blk_frozen BK691.out 4
         go_wp2_with (first | ((with_reducible refine gate_callee (f := 74) rfl ?_); refine goesL_ (some 23) rfl rfl Try.func74 (by kernel_rfl) rfl #[.pointer (some ⟨gb691, 0, none⟩), .int .i64 x7_1] rfl (by (try simp only [List.map_toArray, List.map_cons, List.map_nil]); first | done | rfl) ?_; (with_reducible refine (spec_l08Some.calls k1 gb691 A0_0 c0_0 l0_0 A0_1 c0_1 l0_1 A0_2 c0_2 l0_2 x692003_1 x692004_1 x7_1 t696 _ ?side1 ?side2 ?side3 ?side4 ?side5 ?side6 ?side7 A12.out).mono ?_); (case side1 => repeat (first | exact (Kd.C_below HR0_0.out HB.out) | (with_reducible first | refine Kd.C_alloc ?_ _ | refine Kd.C_drewN ?_ _ | refine Kd.C_drew ?_))); (case side2 => exact HC0_0.out); (case side3 => repeat (first | exact (Kd.C_below HR0_1.out HB.out) | (with_reducible first | refine Kd.C_alloc ?_ _ | refine Kd.C_drewN ?_ _ | refine Kd.C_drew ?_))); (case side4 => exact HC0_1.out); (case side5 => repeat (first | exact (Kd.C_below HR0_2.out HB.out) | (with_reducible first | refine Kd.C_alloc ?_ _ | refine Kd.C_drewN ?_ _ | refine Kd.C_drew ?_))); (case side6 => exact HC0_2.out); (case side7 => exact (by (with_reducible repeat (first | refine blk_drewN ?_ _ | refine blk_drew ?_ | refine blk_alloc ?_ _)); exact BK691.out)); rintro e w27 ⟨v697, rfl, ho0, hb⟩; refine ⟨_, rfl, ?_⟩; have n0_ := Aside0.mk (Kd.S_elder' (by (with_reducible repeat (first | apply Kd.S_alloc | apply Kd.S_drewN | apply Kd.S_drew)); exact HO_5.out) (Kd.R_base ho0) hb); have n1_ := Aside0.mk (Kd.R_lower ho0 (below_size (by repeat (first | (with_reducible first | exact HB.out | apply below_alloc | apply pw_below_drewN | apply below_drew1 | refine below_set ?_ GE691.out) | exact HB.out)))); have n2_ := Aside0.mk (blk_below (g := gb691) (o := .cells #[.slice A0_0 l0_0.length c0_0, .slice A0_1 l0_1.length c0_1, .slice A0_2 l0_2.length c0_2, .int .i64 x692003_1, .int .i64 x692004_1] 27 (0, 0)) (by (with_reducible repeat (first | refine blk_drewN ?_ _ | refine blk_drew ?_ | refine blk_alloc ?_ _)); exact BK691.out) hb); have n3_ := Aside0.mk (below_step (by repeat (first | (with_reducible first | exact HB.out | apply below_alloc | apply pw_below_drewN | apply below_drew1 | refine below_set ?_ GE691.out) | exact HB.out)) hb); clear HO_5; clear BK691; clear HB; have HO_5 := n0_; have HO698 := n1_; have BK691 := n2_; have HB := n3_; clear n0_ n1_ n2_ n3_; (try clear hb); (try clear hb2); (try clear hk); (try clear hi); (try clear ho0); obtain ⟨Ao28, co28, eo28⟩ := Kd.R_slice HO698.out; subst eo28) | ((with_reducible refine gate_callee (f := 72) rfl ?_); refine goesL_ (some 24) rfl rfl Try.func72 (by kernel_rfl) rfl #[.pointer (some ⟨gb691, 0, none⟩), .slice Ao28 t696.length co28] rfl (by (try simp only [List.map_toArray, List.map_cons, List.map_nil]); first | done | rfl) ?_; (with_reducible refine (spec_l08For.calls k1 gb691 A0_0 c0_0 l0_0 A0_1 c0_1 l0_1 A0_2 c0_2 l0_2 x692003_1 x692004_1 _ _ t696 t699 _ ?side1 ?side2 ?side3 ?side4 ?side5 ?side6 ?side7 ?side8 ?side9 A13.out).mono ?_); (case side1 => repeat (first | exact (Kd.C_below HR0_0.out HB.out) | (with_reducible first | refine Kd.C_alloc ?_ _ | refine Kd.C_drewN ?_ _ | refine Kd.C_drew ?_))); (case side2 => exact HC0_0.out); (case side3 => repeat (first | exact (Kd.C_below HR0_1.out HB.out) | (with_reducible first | refine Kd.C_alloc ?_ _ | refine Kd.C_drewN ?_ _ | refine Kd.C_drew ?_))); (case side4 => exact HC0_1.out); (case side5 => repeat (first | exact (Kd.C_below HR0_2.out HB.out) | (with_reducible first | refine Kd.C_alloc ?_ _ | refine Kd.C_drewN ?_ _ | refine Kd.C_drew ?_))); (case side6 => exact HC0_2.out); (case side7 => repeat (first | exact (Kd.R_reads' HO698.out).2.2 | (with_reducible first | refine Kd.C_alloc ?_ _ | refine Kd.C_drewN ?_ _ | refine Kd.C_drew ?_))); (case side8 => exact (Kd.R_reads' HO698.out).2.1); (case side9 => exact (by (with_reducible repeat (first | refine blk_drewN ?_ _ | refine blk_drew ?_ | refine blk_alloc ?_ _)); exact BK691.out)); rintro e w29 ⟨v700, rfl, ho0, hb⟩; refine ⟨_, rfl, ?_⟩; have n0_ := Aside0.mk (Kd.S_elder' (by (with_reducible repeat (first | apply Kd.S_alloc | apply Kd.S_drewN | apply Kd.S_drew)); exact HO_5.out) (Kd.S_base ho0) hb); have n1_ := Aside0.mk (Kd.R_below (by (with_reducible repeat (first | apply Kd.R_alloc | apply Kd.R_drewN | apply Kd.R_drew)); exact HO698.out) hb); have n2_ := Aside0.mk (Kd.S_lower (Kd.S_new' (Kd.S_new' ho0 (Kd.S_lt (by (with_reducible repeat (first | apply Kd.S_alloc | apply Kd.S_drewN | apply Kd.S_drew)); exact HO_5.out))) (Kd.R_lt (by (with_reducible repeat (first | apply Kd.R_alloc | apply Kd.R_drewN | apply Kd.R_drew)); exact HO698.out))) (below_size (by repeat (first | (with_reducible first | exact HB.out | apply below_alloc | apply pw_below_drewN | apply below_drew1 | refine below_set ?_ GE691.out) | exact HB.out)))); have n3_ := Aside0.mk (blk_below (g := gb691) (o := .cells #[.slice A0_0 l0_0.length c0_0, .slice A0_1 l0_1.length c0_1, .slice A0_2 l0_2.length c0_2, .int .i64 x692003_1, .int .i64 x692004_1] 27 (0, 0)) (by (with_reducible repeat (first | refine blk_drewN ?_ _ | refine blk_drew ?_ | refine blk_alloc ?_ _)); exact BK691.out) hb); have n4_ := Aside0.mk (below_step (by repeat (first | (with_reducible first | exact HB.out | apply below_alloc | apply pw_below_drewN | apply below_drew1 | refine below_set ?_ GE691.out) | exact HB.out)) hb); clear HO_5; clear HO698; clear BK691; clear HB; have HO_5 := n0_; have HO698 := n1_; have HO701 := n2_; have BK691 := n3_; have HB := n4_; clear n0_ n1_ n2_ n3_ n4_; (try clear hb); (try clear hb2); (try clear hk); (try clear hi); (try clear ho0); obtain ⟨Ao30, co30, eo30⟩ := Kd.S_slice HO701.out; subst eo30) | ((with_reducible refine gate_callee (f := 73) rfl ?_); refine goesL_ (some 26) rfl rfl Try.func73 (by kernel_rfl) rfl #[.pointer (some ⟨gb691, 0, none⟩), .slice Ao30 t699.length co30] rfl (by (try simp only [List.map_toArray, List.map_cons, List.map_nil]); first | done | rfl) ?_; (with_reducible refine (spec_l08Enough.calls k1 gb691 A0_0 c0_0 l0_0 A0_1 c0_1 l0_1 A0_2 c0_2 l0_2 x692003_1 x692004_1 _ _ t699 true _ ?side1 ?side2 ?side3 ?side4 ?side5 ?side6 ?side7 ?side8 ?side9 A14.out).mono ?_); (case side1 => repeat (first | exact (Kd.C_below HR0_0.out HB.out) | (with_reducible first | refine Kd.C_alloc ?_ _ | refine Kd.C_drewN ?_ _ | refine Kd.C_drew ?_))); (case side2 => exact HC0_0.out); (case side3 => repeat (first | exact (Kd.C_below HR0_1.out HB.out) | (with_reducible first | refine Kd.C_alloc ?_ _ | refine Kd.C_drewN ?_ _ | refine Kd.C_drew ?_))); (case side4 => exact HC0_1.out); (case side5 => repeat (first | exact (Kd.C_below HR0_2.out HB.out) | (with_reducible first | refine Kd.C_alloc ?_ _ | refine Kd.C_drewN ?_ _ | refine Kd.C_drew ?_))); (case side6 => exact HC0_2.out); (case side7 => repeat (first | exact (Kd.S_reads' HO701.out).2.2 | (with_reducible first | refine Kd.C_alloc ?_ _ | refine Kd.C_drewN ?_ _ | refine Kd.C_drew ?_))); (case side8 => exact (Kd.S_reads' HO701.out).2.1); (case side9 => exact (by (with_reducible repeat (first | refine blk_drewN ?_ _ | refine blk_drew ?_ | refine blk_alloc ?_ _)); exact BK691.out)); rintro e w31 ⟨rfl, hb⟩; refine ⟨_, rfl, ?_⟩; have n0_ := Aside0.mk (Kd.S_below (by (with_reducible repeat (first | apply Kd.S_alloc | apply Kd.S_drewN | apply Kd.S_drew)); exact HO_5.out) hb); have n1_ := Aside0.mk (Kd.R_below (by (with_reducible repeat (first | apply Kd.R_alloc | apply Kd.R_drewN | apply Kd.R_drew)); exact HO698.out) hb); have n2_ := Aside0.mk (Kd.S_below (by (with_reducible repeat (first | apply Kd.S_alloc | apply Kd.S_drewN | apply Kd.S_drew)); exact HO701.out) hb); have n3_ := Aside0.mk (blk_below (g := gb691) (o := .cells #[.slice A0_0 l0_0.length c0_0, .slice A0_1 l0_1.length c0_1, .slice A0_2 l0_2.length c0_2, .int .i64 x692003_1, .int .i64 x692004_1] 27 (0, 0)) (by (with_reducible repeat (first | refine blk_drewN ?_ _ | refine blk_drew ?_ | refine blk_alloc ?_ _)); exact BK691.out) hb); have n4_ := Aside0.mk (below_step (by repeat (first | (with_reducible first | exact HB.out | apply below_alloc | apply pw_below_drewN | apply below_drew1 | refine below_set ?_ GE691.out) | exact HB.out)) hb); clear HO_5; clear HO698; clear HO701; clear BK691; clear HB; have HO_5 := n0_; have HO698 := n1_; have HO701 := n2_; have BK691 := n3_; have HB := n4_; clear n0_ n1_ n2_ n3_ n4_; (try clear hb); (try clear hb2); (try clear hk); (try clear hi)) | ((with_reducible refine gate_callee (f := 75) rfl ?_); refine goesL_ (some 29) rfl rfl Try.func75 (by kernel_rfl) rfl #[.pointer (some ⟨gb691, 0, none⟩), .slice Ao30 t699.length co30] rfl (by (try simp only [List.map_toArray, List.map_cons, List.map_nil]); first | done | rfl) ?_; (with_reducible refine (spec_l08Cost.calls k1 gb691 A0_0 c0_0 l0_0 A0_1 c0_1 l0_1 A0_2 c0_2 l0_2 x692003_1 x692004_1 _ _ t699 t703 _ ?side1 ?side2 ?side3 ?side4 ?side5 ?side6 ?side7 ?side8 ?side9 A16.out).mono ?_); (case side1 => repeat (first | exact (Kd.C_below HR0_0.out HB.out) | (with_reducible first | refine Kd.C_alloc ?_ _ | refine Kd.C_drewN ?_ _ | refine Kd.C_drew ?_))); (case side2 => exact HC0_0.out); (case side3 => repeat (first | exact (Kd.C_below HR0_1.out HB.out) | (with_reducible first | refine Kd.C_alloc ?_ _ | refine Kd.C_drewN ?_ _ | refine Kd.C_drew ?_))); (case side4 => exact HC0_1.out); (case side5 => repeat (first | exact (Kd.C_below HR0_2.out HB.out) | (with_reducible first | refine Kd.C_alloc ?_ _ | refine Kd.C_drewN ?_ _ | refine Kd.C_drew ?_))); (case side6 => exact HC0_2.out); (case side7 => repeat (first | exact (Kd.S_reads' HO701.out).2.2 | (with_reducible first | refine Kd.C_alloc ?_ _ | refine Kd.C_drewN ?_ _ | refine Kd.C_drew ?_))); (case side8 => exact (Kd.S_reads' HO701.out).2.1); (case side9 => exact (by (with_reducible repeat (first | refine blk_drewN ?_ _ | refine blk_drew ?_ | refine blk_alloc ?_ _)); exact BK691.out)); rintro e w32 ⟨rfl, hb⟩; (try (have db_ : ∀ {w w' : World}, Drawn0 w w' → Below w.heap.size w w' := (by intro w w' h_; obtain ⟨n_, rfl⟩ := h_; exact pw_below_drewN (Below.refl _ _) _); replace hb := db_ hb; clear db_)); refine ⟨_, rfl, ?_⟩; have n0_ := Aside0.mk (Kd.S_below (by (with_reducible repeat (first | apply Kd.S_alloc | apply Kd.S_drewN | apply Kd.S_drew)); exact HO_5.out) hb); have n1_ := Aside0.mk (Kd.R_below (by (with_reducible repeat (first | apply Kd.R_alloc | apply Kd.R_drewN | apply Kd.R_drew)); exact HO698.out) hb); have n2_ := Aside0.mk (Kd.S_below (by (with_reducible repeat (first | apply Kd.S_alloc | apply Kd.S_drewN | apply Kd.S_drew)); exact HO701.out) hb); have n3_ := Aside0.mk (blk_below (g := gb691) (o := .cells #[.slice A0_0 l0_0.length c0_0, .slice A0_1 l0_1.length c0_1, .slice A0_2 l0_2.length c0_2, .int .i64 x692003_1, .int .i64 x692004_1] 27 (0, 0)) (by (with_reducible repeat (first | refine blk_drewN ?_ _ | refine blk_drew ?_ | refine blk_alloc ?_ _)); exact BK691.out) hb); have n4_ := Aside0.mk (below_step (by repeat (first | (with_reducible first | exact HB.out | apply below_alloc | apply pw_below_drewN | apply below_drew1 | refine below_set ?_ GE691.out) | exact HB.out)) hb); clear HO_5; clear HO698; clear HO701; clear BK691; clear HB; have HO_5 := n0_; have HO698 := n1_; have HO701 := n2_; have BK691 := n3_; have HB := n4_; clear n0_ n1_ n2_ n3_ n4_; (try clear hb); (try clear hb2); (try clear hk); (try clear hi)))
         go_roundg k1
         case measure => have := HK1.out; omega
         case rel => exact ⟨(t699), (t703), (wrap64 (x7_1 + 1)), (x692003_1), (x692004_1), (by first | rfl | (simp; done) | (simp [*]; done) | (simp [tz_, *]; done)), (by first | rfl | (simp; done) | (simp [*]; done) | (simp [tz_, *]; done)), H', ⟨by have := HK1.out; omega⟩, ⟨by (with_reducible repeat (first | apply Kd.S_alloc | apply Kd.S_drewN | apply Kd.S_drew)); exact Kd.S_mono HO701.out (fun _ hk => trivial)⟩, ⟨by (with_reducible repeat (first | refine blk_drewN ?_ _ | refine blk_drew ?_ | refine blk_alloc ?_ _)); exact BK691.out⟩, ⟨by repeat (first | (with_reducible first | exact HB.out | apply below_alloc | apply pw_below_drewN | apply below_drew1 | refine below_set ?_ GE691.out) | exact HB.out)⟩⟩
        ·rw [if_neg c25] at H
         have c25b0 : decide (t703 < x6_1) = false := decide_eq_false c25
         clear c25
         by_cases c33 : t703 = x6_1
         ·rw [if_pos c33] at H
          have c33b0 : (t703 == x6_1) = true := beq_iff_eq.mpr c33
          have c33b1 : (t703 != x6_1) = false := bne_eq_false_iff_eq.mpr c33
          clear c33
          replace H := Option.bind_eq_some_iff.mp H
          obtain ⟨t704, A340, H⟩ := H
          replace H : ((spec_l08Rings.f k1 x5_1).bind fun t707 => ((spec_l08Less.f k1 t704 t707).bind fun t710 => (if t710 = true then (spec_CheapestPlan.l0 k1 t699 t703 (wrap64 (x7_1 + 1)) l0_0 l0_1 l0_2 x692003_1 x692004_1) else (spec_CheapestPlan.l0 k1 x5_1 x6_1 (wrap64 (x7_1 + 1)) l0_0 l0_1 l0_2 x692003_1 x692004_1)))) = some (r1, r2, r3) := H
          have A34 := Aside0.mk A340
          clear A340
          replace H := Option.bind_eq_some_iff.mp H
          obtain ⟨t707, A350, H⟩ := H
          replace H : ((spec_l08Less.f k1 t704 t707).bind fun t710 => (if t710 = true then (spec_CheapestPlan.l0 k1 t699 t703 (wrap64 (x7_1 + 1)) l0_0 l0_1 l0_2 x692003_1 x692004_1) else (spec_CheapestPlan.l0 k1 x5_1 x6_1 (wrap64 (x7_1 + 1)) l0_0 l0_1 l0_2 x692003_1 x692004_1))) = some (r1, r2, r3) := H
          have A35 := Aside0.mk A350
          clear A350
          replace H := Option.bind_eq_some_iff.mp H
          obtain ⟨t710, A360, H⟩ := H
          replace H : (if t710 = true then (spec_CheapestPlan.l0 k1 t699 t703 (wrap64 (x7_1 + 1)) l0_0 l0_1 l0_2 x692003_1 x692004_1) else (spec_CheapestPlan.l0 k1 x5_1 x6_1 (wrap64 (x7_1 + 1)) l0_0 l0_1 l0_2 x692003_1 x692004_1)) = some (r1, r2, r3) := H
          have A36 := Aside0.mk A360
          clear A360
          by_cases c37 : t710 = true
          ·subst c37
           have H1 : (spec_CheapestPlan.l0 k1 t699 t703 (wrap64 (x7_1 + 1)) l0_0 l0_1 l0_2 x692003_1 x692004_1) = some (r1, r2, r3) := by rw [if_pos rfl] at H; exact H
           clear H
           have H := H1
           clear H1
           have H' := Aside0.mk H
           clear H
           have hcz38_0 : wr.cell? ⟨gb691, 0, none⟩ = some (.slice A0_0 l0_0.length c0_0) := (blk_cell BK691.out 0).trans rfl
           have hcz38_1 : wr.cell? ⟨gb691, 1, none⟩ = some (.slice A0_1 l0_1.length c0_1) := (blk_cell BK691.out 1).trans rfl
           have hcz38_2 : wr.cell? ⟨gb691, 2, none⟩ = some (.slice A0_2 l0_2.length c0_2) := (blk_cell BK691.out 2).trans rfl
           have hcz38_3 : wr.cell? ⟨gb691, 3, none⟩ = some (.int .i64 x692003_1) := (blk_cell BK691.out 3).trans rfl
           have hcz38_4 : wr.cell? ⟨gb691, 4, none⟩ = some (.int .i64 x692004_1) := (blk_cell BK691.out 4).trans rfl
           have hfz38_0 := blk_frozen BK691.out 0
           have hfz38_1 := blk_frozen BK691.out 1
           have hfz38_2 := blk_frozen BK691.out 2
           have hfz38_3 := blk_frozen BK691.out 3
           have hfz38_4 := blk_frozen BK691.out 4
           go_wp2_with (first | ((with_reducible refine gate_callee (f := 74) rfl ?_); refine goesL_ (some 23) rfl rfl Try.func74 (by kernel_rfl) rfl #[.pointer (some ⟨gb691, 0, none⟩), .int .i64 x7_1] rfl (by (try simp only [List.map_toArray, List.map_cons, List.map_nil]); first | done | rfl) ?_; (with_reducible refine (spec_l08Some.calls k1 gb691 A0_0 c0_0 l0_0 A0_1 c0_1 l0_1 A0_2 c0_2 l0_2 x692003_1 x692004_1 x7_1 t696 _ ?side1 ?side2 ?side3 ?side4 ?side5 ?side6 ?side7 A12.out).mono ?_); (case side1 => repeat (first | exact (Kd.C_below HR0_0.out HB.out) | (with_reducible first | refine Kd.C_alloc ?_ _ | refine Kd.C_drewN ?_ _ | refine Kd.C_drew ?_))); (case side2 => exact HC0_0.out); (case side3 => repeat (first | exact (Kd.C_below HR0_1.out HB.out) | (with_reducible first | refine Kd.C_alloc ?_ _ | refine Kd.C_drewN ?_ _ | refine Kd.C_drew ?_))); (case side4 => exact HC0_1.out); (case side5 => repeat (first | exact (Kd.C_below HR0_2.out HB.out) | (with_reducible first | refine Kd.C_alloc ?_ _ | refine Kd.C_drewN ?_ _ | refine Kd.C_drew ?_))); (case side6 => exact HC0_2.out); (case side7 => exact (by (with_reducible repeat (first | refine blk_drewN ?_ _ | refine blk_drew ?_ | refine blk_alloc ?_ _)); exact BK691.out)); rintro e w39 ⟨v697, rfl, ho0, hb⟩; refine ⟨_, rfl, ?_⟩; have n0_ := Aside0.mk (Kd.S_elder' (by (with_reducible repeat (first | apply Kd.S_alloc | apply Kd.S_drewN | apply Kd.S_drew)); exact HO_5.out) (Kd.R_base ho0) hb); have n1_ := Aside0.mk (Kd.R_lower ho0 (below_size (by repeat (first | (with_reducible first | exact HB.out | apply below_alloc | apply pw_below_drewN | apply below_drew1 | refine below_set ?_ GE691.out) | exact HB.out)))); have n2_ := Aside0.mk (blk_below (g := gb691) (o := .cells #[.slice A0_0 l0_0.length c0_0, .slice A0_1 l0_1.length c0_1, .slice A0_2 l0_2.length c0_2, .int .i64 x692003_1, .int .i64 x692004_1] 27 (0, 0)) (by (with_reducible repeat (first | refine blk_drewN ?_ _ | refine blk_drew ?_ | refine blk_alloc ?_ _)); exact BK691.out) hb); have n3_ := Aside0.mk (below_step (by repeat (first | (with_reducible first | exact HB.out | apply below_alloc | apply pw_below_drewN | apply below_drew1 | refine below_set ?_ GE691.out) | exact HB.out)) hb); clear HO_5; clear BK691; clear HB; have HO_5 := n0_; have HO698 := n1_; have BK691 := n2_; have HB := n3_; clear n0_ n1_ n2_ n3_; (try clear hb); (try clear hb2); (try clear hk); (try clear hi); (try clear ho0); obtain ⟨Ao40, co40, eo40⟩ := Kd.R_slice HO698.out; subst eo40) | ((with_reducible refine gate_callee (f := 72) rfl ?_); refine goesL_ (some 24) rfl rfl Try.func72 (by kernel_rfl) rfl #[.pointer (some ⟨gb691, 0, none⟩), .slice Ao40 t696.length co40] rfl (by (try simp only [List.map_toArray, List.map_cons, List.map_nil]); first | done | rfl) ?_; (with_reducible refine (spec_l08For.calls k1 gb691 A0_0 c0_0 l0_0 A0_1 c0_1 l0_1 A0_2 c0_2 l0_2 x692003_1 x692004_1 _ _ t696 t699 _ ?side1 ?side2 ?side3 ?side4 ?side5 ?side6 ?side7 ?side8 ?side9 A13.out).mono ?_); (case side1 => repeat (first | exact (Kd.C_below HR0_0.out HB.out) | (with_reducible first | refine Kd.C_alloc ?_ _ | refine Kd.C_drewN ?_ _ | refine Kd.C_drew ?_))); (case side2 => exact HC0_0.out); (case side3 => repeat (first | exact (Kd.C_below HR0_1.out HB.out) | (with_reducible first | refine Kd.C_alloc ?_ _ | refine Kd.C_drewN ?_ _ | refine Kd.C_drew ?_))); (case side4 => exact HC0_1.out); (case side5 => repeat (first | exact (Kd.C_below HR0_2.out HB.out) | (with_reducible first | refine Kd.C_alloc ?_ _ | refine Kd.C_drewN ?_ _ | refine Kd.C_drew ?_))); (case side6 => exact HC0_2.out); (case side7 => repeat (first | exact (Kd.R_reads' HO698.out).2.2 | (with_reducible first | refine Kd.C_alloc ?_ _ | refine Kd.C_drewN ?_ _ | refine Kd.C_drew ?_))); (case side8 => exact (Kd.R_reads' HO698.out).2.1); (case side9 => exact (by (with_reducible repeat (first | refine blk_drewN ?_ _ | refine blk_drew ?_ | refine blk_alloc ?_ _)); exact BK691.out)); rintro e w41 ⟨v700, rfl, ho0, hb⟩; refine ⟨_, rfl, ?_⟩; have n0_ := Aside0.mk (Kd.S_elder' (by (with_reducible repeat (first | apply Kd.S_alloc | apply Kd.S_drewN | apply Kd.S_drew)); exact HO_5.out) (Kd.S_base ho0) hb); have n1_ := Aside0.mk (Kd.R_below (by (with_reducible repeat (first | apply Kd.R_alloc | apply Kd.R_drewN | apply Kd.R_drew)); exact HO698.out) hb); have n2_ := Aside0.mk (Kd.S_lower (Kd.S_new' (Kd.S_new' ho0 (Kd.S_lt (by (with_reducible repeat (first | apply Kd.S_alloc | apply Kd.S_drewN | apply Kd.S_drew)); exact HO_5.out))) (Kd.R_lt (by (with_reducible repeat (first | apply Kd.R_alloc | apply Kd.R_drewN | apply Kd.R_drew)); exact HO698.out))) (below_size (by repeat (first | (with_reducible first | exact HB.out | apply below_alloc | apply pw_below_drewN | apply below_drew1 | refine below_set ?_ GE691.out) | exact HB.out)))); have n3_ := Aside0.mk (blk_below (g := gb691) (o := .cells #[.slice A0_0 l0_0.length c0_0, .slice A0_1 l0_1.length c0_1, .slice A0_2 l0_2.length c0_2, .int .i64 x692003_1, .int .i64 x692004_1] 27 (0, 0)) (by (with_reducible repeat (first | refine blk_drewN ?_ _ | refine blk_drew ?_ | refine blk_alloc ?_ _)); exact BK691.out) hb); have n4_ := Aside0.mk (below_step (by repeat (first | (with_reducible first | exact HB.out | apply below_alloc | apply pw_below_drewN | apply below_drew1 | refine below_set ?_ GE691.out) | exact HB.out)) hb); clear HO_5; clear HO698; clear BK691; clear HB; have HO_5 := n0_; have HO698 := n1_; have HO701 := n2_; have BK691 := n3_; have HB := n4_; clear n0_ n1_ n2_ n3_ n4_; (try clear hb); (try clear hb2); (try clear hk); (try clear hi); (try clear ho0); obtain ⟨Ao42, co42, eo42⟩ := Kd.S_slice HO701.out; subst eo42) | ((with_reducible refine gate_callee (f := 73) rfl ?_); refine goesL_ (some 26) rfl rfl Try.func73 (by kernel_rfl) rfl #[.pointer (some ⟨gb691, 0, none⟩), .slice Ao42 t699.length co42] rfl (by (try simp only [List.map_toArray, List.map_cons, List.map_nil]); first | done | rfl) ?_; (with_reducible refine (spec_l08Enough.calls k1 gb691 A0_0 c0_0 l0_0 A0_1 c0_1 l0_1 A0_2 c0_2 l0_2 x692003_1 x692004_1 _ _ t699 true _ ?side1 ?side2 ?side3 ?side4 ?side5 ?side6 ?side7 ?side8 ?side9 A14.out).mono ?_); (case side1 => repeat (first | exact (Kd.C_below HR0_0.out HB.out) | (with_reducible first | refine Kd.C_alloc ?_ _ | refine Kd.C_drewN ?_ _ | refine Kd.C_drew ?_))); (case side2 => exact HC0_0.out); (case side3 => repeat (first | exact (Kd.C_below HR0_1.out HB.out) | (with_reducible first | refine Kd.C_alloc ?_ _ | refine Kd.C_drewN ?_ _ | refine Kd.C_drew ?_))); (case side4 => exact HC0_1.out); (case side5 => repeat (first | exact (Kd.C_below HR0_2.out HB.out) | (with_reducible first | refine Kd.C_alloc ?_ _ | refine Kd.C_drewN ?_ _ | refine Kd.C_drew ?_))); (case side6 => exact HC0_2.out); (case side7 => repeat (first | exact (Kd.S_reads' HO701.out).2.2 | (with_reducible first | refine Kd.C_alloc ?_ _ | refine Kd.C_drewN ?_ _ | refine Kd.C_drew ?_))); (case side8 => exact (Kd.S_reads' HO701.out).2.1); (case side9 => exact (by (with_reducible repeat (first | refine blk_drewN ?_ _ | refine blk_drew ?_ | refine blk_alloc ?_ _)); exact BK691.out)); rintro e w43 ⟨rfl, hb⟩; refine ⟨_, rfl, ?_⟩; have n0_ := Aside0.mk (Kd.S_below (by (with_reducible repeat (first | apply Kd.S_alloc | apply Kd.S_drewN | apply Kd.S_drew)); exact HO_5.out) hb); have n1_ := Aside0.mk (Kd.R_below (by (with_reducible repeat (first | apply Kd.R_alloc | apply Kd.R_drewN | apply Kd.R_drew)); exact HO698.out) hb); have n2_ := Aside0.mk (Kd.S_below (by (with_reducible repeat (first | apply Kd.S_alloc | apply Kd.S_drewN | apply Kd.S_drew)); exact HO701.out) hb); have n3_ := Aside0.mk (blk_below (g := gb691) (o := .cells #[.slice A0_0 l0_0.length c0_0, .slice A0_1 l0_1.length c0_1, .slice A0_2 l0_2.length c0_2, .int .i64 x692003_1, .int .i64 x692004_1] 27 (0, 0)) (by (with_reducible repeat (first | refine blk_drewN ?_ _ | refine blk_drew ?_ | refine blk_alloc ?_ _)); exact BK691.out) hb); have n4_ := Aside0.mk (below_step (by repeat (first | (with_reducible first | exact HB.out | apply below_alloc | apply pw_below_drewN | apply below_drew1 | refine below_set ?_ GE691.out) | exact HB.out)) hb); clear HO_5; clear HO698; clear HO701; clear BK691; clear HB; have HO_5 := n0_; have HO698 := n1_; have HO701 := n2_; have BK691 := n3_; have HB := n4_; clear n0_ n1_ n2_ n3_ n4_; (try clear hb); (try clear hb2); (try clear hk); (try clear hi)) | ((with_reducible refine gate_callee (f := 75) rfl ?_); refine goesL_ (some 29) rfl rfl Try.func75 (by kernel_rfl) rfl #[.pointer (some ⟨gb691, 0, none⟩), .slice Ao42 t699.length co42] rfl (by (try simp only [List.map_toArray, List.map_cons, List.map_nil]); first | done | rfl) ?_; (with_reducible refine (spec_l08Cost.calls k1 gb691 A0_0 c0_0 l0_0 A0_1 c0_1 l0_1 A0_2 c0_2 l0_2 x692003_1 x692004_1 _ _ t699 t703 _ ?side1 ?side2 ?side3 ?side4 ?side5 ?side6 ?side7 ?side8 ?side9 A16.out).mono ?_); (case side1 => repeat (first | exact (Kd.C_below HR0_0.out HB.out) | (with_reducible first | refine Kd.C_alloc ?_ _ | refine Kd.C_drewN ?_ _ | refine Kd.C_drew ?_))); (case side2 => exact HC0_0.out); (case side3 => repeat (first | exact (Kd.C_below HR0_1.out HB.out) | (with_reducible first | refine Kd.C_alloc ?_ _ | refine Kd.C_drewN ?_ _ | refine Kd.C_drew ?_))); (case side4 => exact HC0_1.out); (case side5 => repeat (first | exact (Kd.C_below HR0_2.out HB.out) | (with_reducible first | refine Kd.C_alloc ?_ _ | refine Kd.C_drewN ?_ _ | refine Kd.C_drew ?_))); (case side6 => exact HC0_2.out); (case side7 => repeat (first | exact (Kd.S_reads' HO701.out).2.2 | (with_reducible first | refine Kd.C_alloc ?_ _ | refine Kd.C_drewN ?_ _ | refine Kd.C_drew ?_))); (case side8 => exact (Kd.S_reads' HO701.out).2.1); (case side9 => exact (by (with_reducible repeat (first | refine blk_drewN ?_ _ | refine blk_drew ?_ | refine blk_alloc ?_ _)); exact BK691.out)); rintro e w44 ⟨rfl, hb⟩; (try (have db_ : ∀ {w w' : World}, Drawn0 w w' → Below w.heap.size w w' := (by intro w w' h_; obtain ⟨n_, rfl⟩ := h_; exact pw_below_drewN (Below.refl _ _) _); replace hb := db_ hb; clear db_)); refine ⟨_, rfl, ?_⟩; have n0_ := Aside0.mk (Kd.S_below (by (with_reducible repeat (first | apply Kd.S_alloc | apply Kd.S_drewN | apply Kd.S_drew)); exact HO_5.out) hb); have n1_ := Aside0.mk (Kd.R_below (by (with_reducible repeat (first | apply Kd.R_alloc | apply Kd.R_drewN | apply Kd.R_drew)); exact HO698.out) hb); have n2_ := Aside0.mk (Kd.S_below (by (with_reducible repeat (first | apply Kd.S_alloc | apply Kd.S_drewN | apply Kd.S_drew)); exact HO701.out) hb); have n3_ := Aside0.mk (blk_below (g := gb691) (o := .cells #[.slice A0_0 l0_0.length c0_0, .slice A0_1 l0_1.length c0_1, .slice A0_2 l0_2.length c0_2, .int .i64 x692003_1, .int .i64 x692004_1] 27 (0, 0)) (by (with_reducible repeat (first | refine blk_drewN ?_ _ | refine blk_drew ?_ | refine blk_alloc ?_ _)); exact BK691.out) hb); have n4_ := Aside0.mk (below_step (by repeat (first | (with_reducible first | exact HB.out | apply below_alloc | apply pw_below_drewN | apply below_drew1 | refine below_set ?_ GE691.out) | exact HB.out)) hb); clear HO_5; clear HO698; clear HO701; clear BK691; clear HB; have HO_5 := n0_; have HO698 := n1_; have HO701 := n2_; have BK691 := n3_; have HB := n4_; clear n0_ n1_ n2_ n3_ n4_; (try clear hb); (try clear hb2); (try clear hk); (try clear hi)) | (go_at_call 77; (with_reducible refine (spec_l08Rings.calls k1 _ _ t699 t704 _ ?side1 ?side2 A34.out).mono ?_); (case side1 => repeat (first | exact (Kd.S_reads' HO701.out).2.2 | (with_reducible first | refine Kd.C_alloc ?_ _ | refine Kd.C_drewN ?_ _ | refine Kd.C_drew ?_))); (case side2 => exact (Kd.S_reads' HO701.out).2.1); rintro e w45 ⟨v705, rfl, ho0, hb⟩; have n0_ := Aside0.mk (Kd.S_elder' (by (with_reducible repeat (first | apply Kd.S_alloc | apply Kd.S_drewN | apply Kd.S_drew)); exact HO_5.out) (Kd.R_base ho0) hb); have n1_ := Aside0.mk (Kd.R_elder' (by (with_reducible repeat (first | apply Kd.R_alloc | apply Kd.R_drewN | apply Kd.R_drew)); exact HO698.out) (Kd.R_base ho0) hb); have n2_ := Aside0.mk (Kd.S_elder' (by (with_reducible repeat (first | apply Kd.S_alloc | apply Kd.S_drewN | apply Kd.S_drew)); exact HO701.out) (Kd.R_base ho0) hb); have n3_ := Aside0.mk (Kd.R_lower (Kd.R_new' ho0 (Kd.R_lt (by (with_reducible repeat (first | apply Kd.R_alloc | apply Kd.R_drewN | apply Kd.R_drew)); exact HO698.out))) (below_size (by repeat (first | (with_reducible first | exact HB.out | apply below_alloc | apply pw_below_drewN | apply below_drew1 | refine below_set ?_ GE691.out) | exact HB.out)))); have n4_ := Aside0.mk (blk_below (g := gb691) (o := .cells #[.slice A0_0 l0_0.length c0_0, .slice A0_1 l0_1.length c0_1, .slice A0_2 l0_2.length c0_2, .int .i64 x692003_1, .int .i64 x692004_1] 27 (0, 0)) (by (with_reducible repeat (first | refine blk_drewN ?_ _ | refine blk_drew ?_ | refine blk_alloc ?_ _)); exact BK691.out) hb); have n5_ := Aside0.mk (below_step (by repeat (first | (with_reducible first | exact HB.out | apply below_alloc | apply pw_below_drewN | apply below_drew1 | refine below_set ?_ GE691.out) | exact HB.out)) hb); clear HO_5; clear HO698; clear HO701; clear BK691; clear HB; have HO_5 := n0_; have HO698 := n1_; have HO701 := n2_; have HO706 := n3_; have BK691 := n4_; have HB := n5_; clear n0_ n1_ n2_ n3_ n4_ n5_; (try clear hb); (try clear hb2); (try clear hk); (try clear hi); (try clear ho0); obtain ⟨Ao46, co46, eo46⟩ := Kd.S_slice HO_5.out; subst eo46) | (go_at_call 77; (with_reducible refine (spec_l08Rings.calls k1 _ _ x5_1 t707 _ ?side1 ?side2 A35.out).mono ?_); (case side1 => repeat (first | exact (Kd.S_reads' HO_5.out).2.2 | (with_reducible first | refine Kd.C_alloc ?_ _ | refine Kd.C_drewN ?_ _ | refine Kd.C_drew ?_))); (case side2 => exact (Kd.S_reads' HO_5.out).2.1); rintro e w47 ⟨v708, rfl, ho0, hb⟩; have n0_ := Aside0.mk (Kd.S_elder' (by (with_reducible repeat (first | apply Kd.S_alloc | apply Kd.S_drewN | apply Kd.S_drew)); exact HO_5.out) (Kd.R_base ho0) hb); have n1_ := Aside0.mk (Kd.R_elder' (by (with_reducible repeat (first | apply Kd.R_alloc | apply Kd.R_drewN | apply Kd.R_drew)); exact HO698.out) (Kd.R_base ho0) hb); have n2_ := Aside0.mk (Kd.S_elder' (by (with_reducible repeat (first | apply Kd.S_alloc | apply Kd.S_drewN | apply Kd.S_drew)); exact HO701.out) (Kd.R_base ho0) hb); have n3_ := Aside0.mk (Kd.R_elder' (by (with_reducible repeat (first | apply Kd.R_alloc | apply Kd.R_drewN | apply Kd.R_drew)); exact HO706.out) (Kd.R_base ho0) hb); have n4_ := Aside0.mk (Kd.R_lower (Kd.R_new' (Kd.R_new' ho0 (Kd.R_lt (by (with_reducible repeat (first | apply Kd.R_alloc | apply Kd.R_drewN | apply Kd.R_drew)); exact HO698.out))) (Kd.R_lt (by (with_reducible repeat (first | apply Kd.R_alloc | apply Kd.R_drewN | apply Kd.R_drew)); exact HO706.out))) (below_size (by repeat (first | (with_reducible first | exact HB.out | apply below_alloc | apply pw_below_drewN | apply below_drew1 | refine below_set ?_ GE691.out) | exact HB.out)))); have n5_ := Aside0.mk (blk_below (g := gb691) (o := .cells #[.slice A0_0 l0_0.length c0_0, .slice A0_1 l0_1.length c0_1, .slice A0_2 l0_2.length c0_2, .int .i64 x692003_1, .int .i64 x692004_1] 27 (0, 0)) (by (with_reducible repeat (first | refine blk_drewN ?_ _ | refine blk_drew ?_ | refine blk_alloc ?_ _)); exact BK691.out) hb); have n6_ := Aside0.mk (below_step (by repeat (first | (with_reducible first | exact HB.out | apply below_alloc | apply pw_below_drewN | apply below_drew1 | refine below_set ?_ GE691.out) | exact HB.out)) hb); clear HO_5; clear HO698; clear HO701; clear HO706; clear BK691; clear HB; have HO_5 := n0_; have HO698 := n1_; have HO701 := n2_; have HO706 := n3_; have HO709 := n4_; have BK691 := n5_; have HB := n6_; clear n0_ n1_ n2_ n3_ n4_ n5_ n6_; (try clear hb); (try clear hb2); (try clear hk); (try clear hi); (try clear ho0); obtain ⟨Ao48, co48, eo48⟩ := Kd.R_slice HO706.out; subst eo48; obtain ⟨Ao49, co49, eo49⟩ := Kd.R_slice HO709.out; subst eo49) | (go_at_call 76; (with_reducible refine (spec_l08Less.calls k1 _ _ t704 _ _ t707 true _ ?side1 ?side2 ?side3 ?side4 A36.out).mono ?_); (case side1 => repeat (first | exact (Kd.R_reads' HO706.out).2.2 | (with_reducible first | refine Kd.C_alloc ?_ _ | refine Kd.C_drewN ?_ _ | refine Kd.C_drew ?_))); (case side2 => exact (Kd.R_reads' HO706.out).2.1); (case side3 => repeat (first | exact (Kd.R_reads' HO709.out).2.2 | (with_reducible first | refine Kd.C_alloc ?_ _ | refine Kd.C_drewN ?_ _ | refine Kd.C_drew ?_))); (case side4 => exact (Kd.R_reads' HO709.out).2.1); rintro e w' ⟨rfl, ⟨nd, rfl⟩⟩))
           go_roundg k1
           case measure => have := HK1.out; omega
           case rel => exact ⟨(t699), (t703), (wrap64 (x7_1 + 1)), (x692003_1), (x692004_1), (by first | rfl | (simp; done) | (simp [*]; done) | (simp [tz_, *]; done)), (by first | rfl | (simp; done) | (simp [*]; done) | (simp [tz_, *]; done)), H', ⟨by have := HK1.out; omega⟩, ⟨by (with_reducible repeat (first | apply Kd.S_alloc | apply Kd.S_drewN | apply Kd.S_drew)); exact Kd.S_mono HO701.out (fun _ hk => trivial)⟩, ⟨by (with_reducible repeat (first | refine blk_drewN ?_ _ | refine blk_drew ?_ | refine blk_alloc ?_ _)); exact BK691.out⟩, ⟨by repeat (first | (with_reducible first | exact HB.out | apply below_alloc | apply pw_below_drewN | apply below_drew1 | refine below_set ?_ GE691.out) | exact HB.out)⟩⟩
          ·replace c37 := Bool.eq_false_iff.mpr c37
           subst c37
           have H1 : (spec_CheapestPlan.l0 k1 x5_1 x6_1 (wrap64 (x7_1 + 1)) l0_0 l0_1 l0_2 x692003_1 x692004_1) = some (r1, r2, r3) := by rw [if_neg (show ¬ (false = true) by decide)] at H; exact H
           clear H
           have H := H1
           clear H1
           have H' := Aside0.mk H
           clear H
           have hcz50_0 : wr.cell? ⟨gb691, 0, none⟩ = some (.slice A0_0 l0_0.length c0_0) := (blk_cell BK691.out 0).trans rfl
           have hcz50_1 : wr.cell? ⟨gb691, 1, none⟩ = some (.slice A0_1 l0_1.length c0_1) := (blk_cell BK691.out 1).trans rfl
           have hcz50_2 : wr.cell? ⟨gb691, 2, none⟩ = some (.slice A0_2 l0_2.length c0_2) := (blk_cell BK691.out 2).trans rfl
           have hcz50_3 : wr.cell? ⟨gb691, 3, none⟩ = some (.int .i64 x692003_1) := (blk_cell BK691.out 3).trans rfl
           have hcz50_4 : wr.cell? ⟨gb691, 4, none⟩ = some (.int .i64 x692004_1) := (blk_cell BK691.out 4).trans rfl
           have hfz50_0 := blk_frozen BK691.out 0
           have hfz50_1 := blk_frozen BK691.out 1
           have hfz50_2 := blk_frozen BK691.out 2
           have hfz50_3 := blk_frozen BK691.out 3
           have hfz50_4 := blk_frozen BK691.out 4
           go_wp2_with (first | ((with_reducible refine gate_callee (f := 74) rfl ?_); refine goesL_ (some 23) rfl rfl Try.func74 (by kernel_rfl) rfl #[.pointer (some ⟨gb691, 0, none⟩), .int .i64 x7_1] rfl (by (try simp only [List.map_toArray, List.map_cons, List.map_nil]); first | done | rfl) ?_; (with_reducible refine (spec_l08Some.calls k1 gb691 A0_0 c0_0 l0_0 A0_1 c0_1 l0_1 A0_2 c0_2 l0_2 x692003_1 x692004_1 x7_1 t696 _ ?side1 ?side2 ?side3 ?side4 ?side5 ?side6 ?side7 A12.out).mono ?_); (case side1 => repeat (first | exact (Kd.C_below HR0_0.out HB.out) | (with_reducible first | refine Kd.C_alloc ?_ _ | refine Kd.C_drewN ?_ _ | refine Kd.C_drew ?_))); (case side2 => exact HC0_0.out); (case side3 => repeat (first | exact (Kd.C_below HR0_1.out HB.out) | (with_reducible first | refine Kd.C_alloc ?_ _ | refine Kd.C_drewN ?_ _ | refine Kd.C_drew ?_))); (case side4 => exact HC0_1.out); (case side5 => repeat (first | exact (Kd.C_below HR0_2.out HB.out) | (with_reducible first | refine Kd.C_alloc ?_ _ | refine Kd.C_drewN ?_ _ | refine Kd.C_drew ?_))); (case side6 => exact HC0_2.out); (case side7 => exact (by (with_reducible repeat (first | refine blk_drewN ?_ _ | refine blk_drew ?_ | refine blk_alloc ?_ _)); exact BK691.out)); rintro e w51 ⟨v697, rfl, ho0, hb⟩; refine ⟨_, rfl, ?_⟩; have n0_ := Aside0.mk (Kd.S_elder' (by (with_reducible repeat (first | apply Kd.S_alloc | apply Kd.S_drewN | apply Kd.S_drew)); exact HO_5.out) (Kd.R_base ho0) hb); have n1_ := Aside0.mk (Kd.R_lower ho0 (below_size (by repeat (first | (with_reducible first | exact HB.out | apply below_alloc | apply pw_below_drewN | apply below_drew1 | refine below_set ?_ GE691.out) | exact HB.out)))); have n2_ := Aside0.mk (blk_below (g := gb691) (o := .cells #[.slice A0_0 l0_0.length c0_0, .slice A0_1 l0_1.length c0_1, .slice A0_2 l0_2.length c0_2, .int .i64 x692003_1, .int .i64 x692004_1] 27 (0, 0)) (by (with_reducible repeat (first | refine blk_drewN ?_ _ | refine blk_drew ?_ | refine blk_alloc ?_ _)); exact BK691.out) hb); have n3_ := Aside0.mk (below_step (by repeat (first | (with_reducible first | exact HB.out | apply below_alloc | apply pw_below_drewN | apply below_drew1 | refine below_set ?_ GE691.out) | exact HB.out)) hb); clear HO_5; clear BK691; clear HB; have HO_5 := n0_; have HO698 := n1_; have BK691 := n2_; have HB := n3_; clear n0_ n1_ n2_ n3_; (try clear hb); (try clear hb2); (try clear hk); (try clear hi); (try clear ho0); obtain ⟨Ao52, co52, eo52⟩ := Kd.R_slice HO698.out; subst eo52) | ((with_reducible refine gate_callee (f := 72) rfl ?_); refine goesL_ (some 24) rfl rfl Try.func72 (by kernel_rfl) rfl #[.pointer (some ⟨gb691, 0, none⟩), .slice Ao52 t696.length co52] rfl (by (try simp only [List.map_toArray, List.map_cons, List.map_nil]); first | done | rfl) ?_; (with_reducible refine (spec_l08For.calls k1 gb691 A0_0 c0_0 l0_0 A0_1 c0_1 l0_1 A0_2 c0_2 l0_2 x692003_1 x692004_1 _ _ t696 t699 _ ?side1 ?side2 ?side3 ?side4 ?side5 ?side6 ?side7 ?side8 ?side9 A13.out).mono ?_); (case side1 => repeat (first | exact (Kd.C_below HR0_0.out HB.out) | (with_reducible first | refine Kd.C_alloc ?_ _ | refine Kd.C_drewN ?_ _ | refine Kd.C_drew ?_))); (case side2 => exact HC0_0.out); (case side3 => repeat (first | exact (Kd.C_below HR0_1.out HB.out) | (with_reducible first | refine Kd.C_alloc ?_ _ | refine Kd.C_drewN ?_ _ | refine Kd.C_drew ?_))); (case side4 => exact HC0_1.out); (case side5 => repeat (first | exact (Kd.C_below HR0_2.out HB.out) | (with_reducible first | refine Kd.C_alloc ?_ _ | refine Kd.C_drewN ?_ _ | refine Kd.C_drew ?_))); (case side6 => exact HC0_2.out); (case side7 => repeat (first | exact (Kd.R_reads' HO698.out).2.2 | (with_reducible first | refine Kd.C_alloc ?_ _ | refine Kd.C_drewN ?_ _ | refine Kd.C_drew ?_))); (case side8 => exact (Kd.R_reads' HO698.out).2.1); (case side9 => exact (by (with_reducible repeat (first | refine blk_drewN ?_ _ | refine blk_drew ?_ | refine blk_alloc ?_ _)); exact BK691.out)); rintro e w53 ⟨v700, rfl, ho0, hb⟩; refine ⟨_, rfl, ?_⟩; have n0_ := Aside0.mk (Kd.S_elder' (by (with_reducible repeat (first | apply Kd.S_alloc | apply Kd.S_drewN | apply Kd.S_drew)); exact HO_5.out) (Kd.S_base ho0) hb); have n1_ := Aside0.mk (Kd.R_below (by (with_reducible repeat (first | apply Kd.R_alloc | apply Kd.R_drewN | apply Kd.R_drew)); exact HO698.out) hb); have n2_ := Aside0.mk (Kd.S_lower (Kd.S_new' (Kd.S_new' ho0 (Kd.S_lt (by (with_reducible repeat (first | apply Kd.S_alloc | apply Kd.S_drewN | apply Kd.S_drew)); exact HO_5.out))) (Kd.R_lt (by (with_reducible repeat (first | apply Kd.R_alloc | apply Kd.R_drewN | apply Kd.R_drew)); exact HO698.out))) (below_size (by repeat (first | (with_reducible first | exact HB.out | apply below_alloc | apply pw_below_drewN | apply below_drew1 | refine below_set ?_ GE691.out) | exact HB.out)))); have n3_ := Aside0.mk (blk_below (g := gb691) (o := .cells #[.slice A0_0 l0_0.length c0_0, .slice A0_1 l0_1.length c0_1, .slice A0_2 l0_2.length c0_2, .int .i64 x692003_1, .int .i64 x692004_1] 27 (0, 0)) (by (with_reducible repeat (first | refine blk_drewN ?_ _ | refine blk_drew ?_ | refine blk_alloc ?_ _)); exact BK691.out) hb); have n4_ := Aside0.mk (below_step (by repeat (first | (with_reducible first | exact HB.out | apply below_alloc | apply pw_below_drewN | apply below_drew1 | refine below_set ?_ GE691.out) | exact HB.out)) hb); clear HO_5; clear HO698; clear BK691; clear HB; have HO_5 := n0_; have HO698 := n1_; have HO701 := n2_; have BK691 := n3_; have HB := n4_; clear n0_ n1_ n2_ n3_ n4_; (try clear hb); (try clear hb2); (try clear hk); (try clear hi); (try clear ho0); obtain ⟨Ao54, co54, eo54⟩ := Kd.S_slice HO701.out; subst eo54) | ((with_reducible refine gate_callee (f := 73) rfl ?_); refine goesL_ (some 26) rfl rfl Try.func73 (by kernel_rfl) rfl #[.pointer (some ⟨gb691, 0, none⟩), .slice Ao54 t699.length co54] rfl (by (try simp only [List.map_toArray, List.map_cons, List.map_nil]); first | done | rfl) ?_; (with_reducible refine (spec_l08Enough.calls k1 gb691 A0_0 c0_0 l0_0 A0_1 c0_1 l0_1 A0_2 c0_2 l0_2 x692003_1 x692004_1 _ _ t699 true _ ?side1 ?side2 ?side3 ?side4 ?side5 ?side6 ?side7 ?side8 ?side9 A14.out).mono ?_); (case side1 => repeat (first | exact (Kd.C_below HR0_0.out HB.out) | (with_reducible first | refine Kd.C_alloc ?_ _ | refine Kd.C_drewN ?_ _ | refine Kd.C_drew ?_))); (case side2 => exact HC0_0.out); (case side3 => repeat (first | exact (Kd.C_below HR0_1.out HB.out) | (with_reducible first | refine Kd.C_alloc ?_ _ | refine Kd.C_drewN ?_ _ | refine Kd.C_drew ?_))); (case side4 => exact HC0_1.out); (case side5 => repeat (first | exact (Kd.C_below HR0_2.out HB.out) | (with_reducible first | refine Kd.C_alloc ?_ _ | refine Kd.C_drewN ?_ _ | refine Kd.C_drew ?_))); (case side6 => exact HC0_2.out); (case side7 => repeat (first | exact (Kd.S_reads' HO701.out).2.2 | (with_reducible first | refine Kd.C_alloc ?_ _ | refine Kd.C_drewN ?_ _ | refine Kd.C_drew ?_))); (case side8 => exact (Kd.S_reads' HO701.out).2.1); (case side9 => exact (by (with_reducible repeat (first | refine blk_drewN ?_ _ | refine blk_drew ?_ | refine blk_alloc ?_ _)); exact BK691.out)); rintro e w55 ⟨rfl, hb⟩; refine ⟨_, rfl, ?_⟩; have n0_ := Aside0.mk (Kd.S_below (by (with_reducible repeat (first | apply Kd.S_alloc | apply Kd.S_drewN | apply Kd.S_drew)); exact HO_5.out) hb); have n1_ := Aside0.mk (Kd.R_below (by (with_reducible repeat (first | apply Kd.R_alloc | apply Kd.R_drewN | apply Kd.R_drew)); exact HO698.out) hb); have n2_ := Aside0.mk (Kd.S_below (by (with_reducible repeat (first | apply Kd.S_alloc | apply Kd.S_drewN | apply Kd.S_drew)); exact HO701.out) hb); have n3_ := Aside0.mk (blk_below (g := gb691) (o := .cells #[.slice A0_0 l0_0.length c0_0, .slice A0_1 l0_1.length c0_1, .slice A0_2 l0_2.length c0_2, .int .i64 x692003_1, .int .i64 x692004_1] 27 (0, 0)) (by (with_reducible repeat (first | refine blk_drewN ?_ _ | refine blk_drew ?_ | refine blk_alloc ?_ _)); exact BK691.out) hb); have n4_ := Aside0.mk (below_step (by repeat (first | (with_reducible first | exact HB.out | apply below_alloc | apply pw_below_drewN | apply below_drew1 | refine below_set ?_ GE691.out) | exact HB.out)) hb); clear HO_5; clear HO698; clear HO701; clear BK691; clear HB; have HO_5 := n0_; have HO698 := n1_; have HO701 := n2_; have BK691 := n3_; have HB := n4_; clear n0_ n1_ n2_ n3_ n4_; (try clear hb); (try clear hb2); (try clear hk); (try clear hi)) | ((with_reducible refine gate_callee (f := 75) rfl ?_); refine goesL_ (some 29) rfl rfl Try.func75 (by kernel_rfl) rfl #[.pointer (some ⟨gb691, 0, none⟩), .slice Ao54 t699.length co54] rfl (by (try simp only [List.map_toArray, List.map_cons, List.map_nil]); first | done | rfl) ?_; (with_reducible refine (spec_l08Cost.calls k1 gb691 A0_0 c0_0 l0_0 A0_1 c0_1 l0_1 A0_2 c0_2 l0_2 x692003_1 x692004_1 _ _ t699 t703 _ ?side1 ?side2 ?side3 ?side4 ?side5 ?side6 ?side7 ?side8 ?side9 A16.out).mono ?_); (case side1 => repeat (first | exact (Kd.C_below HR0_0.out HB.out) | (with_reducible first | refine Kd.C_alloc ?_ _ | refine Kd.C_drewN ?_ _ | refine Kd.C_drew ?_))); (case side2 => exact HC0_0.out); (case side3 => repeat (first | exact (Kd.C_below HR0_1.out HB.out) | (with_reducible first | refine Kd.C_alloc ?_ _ | refine Kd.C_drewN ?_ _ | refine Kd.C_drew ?_))); (case side4 => exact HC0_1.out); (case side5 => repeat (first | exact (Kd.C_below HR0_2.out HB.out) | (with_reducible first | refine Kd.C_alloc ?_ _ | refine Kd.C_drewN ?_ _ | refine Kd.C_drew ?_))); (case side6 => exact HC0_2.out); (case side7 => repeat (first | exact (Kd.S_reads' HO701.out).2.2 | (with_reducible first | refine Kd.C_alloc ?_ _ | refine Kd.C_drewN ?_ _ | refine Kd.C_drew ?_))); (case side8 => exact (Kd.S_reads' HO701.out).2.1); (case side9 => exact (by (with_reducible repeat (first | refine blk_drewN ?_ _ | refine blk_drew ?_ | refine blk_alloc ?_ _)); exact BK691.out)); rintro e w56 ⟨rfl, hb⟩; (try (have db_ : ∀ {w w' : World}, Drawn0 w w' → Below w.heap.size w w' := (by intro w w' h_; obtain ⟨n_, rfl⟩ := h_; exact pw_below_drewN (Below.refl _ _) _); replace hb := db_ hb; clear db_)); refine ⟨_, rfl, ?_⟩; have n0_ := Aside0.mk (Kd.S_below (by (with_reducible repeat (first | apply Kd.S_alloc | apply Kd.S_drewN | apply Kd.S_drew)); exact HO_5.out) hb); have n1_ := Aside0.mk (Kd.R_below (by (with_reducible repeat (first | apply Kd.R_alloc | apply Kd.R_drewN | apply Kd.R_drew)); exact HO698.out) hb); have n2_ := Aside0.mk (Kd.S_below (by (with_reducible repeat (first | apply Kd.S_alloc | apply Kd.S_drewN | apply Kd.S_drew)); exact HO701.out) hb); have n3_ := Aside0.mk (blk_below (g := gb691) (o := .cells #[.slice A0_0 l0_0.length c0_0, .slice A0_1 l0_1.length c0_1, .slice A0_2 l0_2.length c0_2, .int .i64 x692003_1, .int .i64 x692004_1] 27 (0, 0)) (by (with_reducible repeat (first | refine blk_drewN ?_ _ | refine blk_drew ?_ | refine blk_alloc ?_ _)); exact BK691.out) hb); have n4_ := Aside0.mk (below_step (by repeat (first | (with_reducible first | exact HB.out | apply below_alloc | apply pw_below_drewN | apply below_drew1 | refine below_set ?_ GE691.out) | exact HB.out)) hb); clear HO_5; clear HO698; clear HO701; clear BK691; clear HB; have HO_5 := n0_; have HO698 := n1_; have HO701 := n2_; have BK691 := n3_; have HB := n4_; clear n0_ n1_ n2_ n3_ n4_; (try clear hb); (try clear hb2); (try clear hk); (try clear hi)) | (go_at_call 77; (with_reducible refine (spec_l08Rings.calls k1 _ _ t699 t704 _ ?side1 ?side2 A34.out).mono ?_); (case side1 => repeat (first | exact (Kd.S_reads' HO701.out).2.2 | (with_reducible first | refine Kd.C_alloc ?_ _ | refine Kd.C_drewN ?_ _ | refine Kd.C_drew ?_))); (case side2 => exact (Kd.S_reads' HO701.out).2.1); rintro e w57 ⟨v705, rfl, ho0, hb⟩; have n0_ := Aside0.mk (Kd.S_elder' (by (with_reducible repeat (first | apply Kd.S_alloc | apply Kd.S_drewN | apply Kd.S_drew)); exact HO_5.out) (Kd.R_base ho0) hb); have n1_ := Aside0.mk (Kd.R_elder' (by (with_reducible repeat (first | apply Kd.R_alloc | apply Kd.R_drewN | apply Kd.R_drew)); exact HO698.out) (Kd.R_base ho0) hb); have n2_ := Aside0.mk (Kd.S_elder' (by (with_reducible repeat (first | apply Kd.S_alloc | apply Kd.S_drewN | apply Kd.S_drew)); exact HO701.out) (Kd.R_base ho0) hb); have n3_ := Aside0.mk (Kd.R_lower (Kd.R_new' ho0 (Kd.R_lt (by (with_reducible repeat (first | apply Kd.R_alloc | apply Kd.R_drewN | apply Kd.R_drew)); exact HO698.out))) (below_size (by repeat (first | (with_reducible first | exact HB.out | apply below_alloc | apply pw_below_drewN | apply below_drew1 | refine below_set ?_ GE691.out) | exact HB.out)))); have n4_ := Aside0.mk (blk_below (g := gb691) (o := .cells #[.slice A0_0 l0_0.length c0_0, .slice A0_1 l0_1.length c0_1, .slice A0_2 l0_2.length c0_2, .int .i64 x692003_1, .int .i64 x692004_1] 27 (0, 0)) (by (with_reducible repeat (first | refine blk_drewN ?_ _ | refine blk_drew ?_ | refine blk_alloc ?_ _)); exact BK691.out) hb); have n5_ := Aside0.mk (below_step (by repeat (first | (with_reducible first | exact HB.out | apply below_alloc | apply pw_below_drewN | apply below_drew1 | refine below_set ?_ GE691.out) | exact HB.out)) hb); clear HO_5; clear HO698; clear HO701; clear BK691; clear HB; have HO_5 := n0_; have HO698 := n1_; have HO701 := n2_; have HO706 := n3_; have BK691 := n4_; have HB := n5_; clear n0_ n1_ n2_ n3_ n4_ n5_; (try clear hb); (try clear hb2); (try clear hk); (try clear hi); (try clear ho0); obtain ⟨Ao58, co58, eo58⟩ := Kd.S_slice HO_5.out; subst eo58) | (go_at_call 77; (with_reducible refine (spec_l08Rings.calls k1 _ _ x5_1 t707 _ ?side1 ?side2 A35.out).mono ?_); (case side1 => repeat (first | exact (Kd.S_reads' HO_5.out).2.2 | (with_reducible first | refine Kd.C_alloc ?_ _ | refine Kd.C_drewN ?_ _ | refine Kd.C_drew ?_))); (case side2 => exact (Kd.S_reads' HO_5.out).2.1); rintro e w59 ⟨v708, rfl, ho0, hb⟩; have n0_ := Aside0.mk (Kd.S_elder' (by (with_reducible repeat (first | apply Kd.S_alloc | apply Kd.S_drewN | apply Kd.S_drew)); exact HO_5.out) (Kd.R_base ho0) hb); have n1_ := Aside0.mk (Kd.R_elder' (by (with_reducible repeat (first | apply Kd.R_alloc | apply Kd.R_drewN | apply Kd.R_drew)); exact HO698.out) (Kd.R_base ho0) hb); have n2_ := Aside0.mk (Kd.S_elder' (by (with_reducible repeat (first | apply Kd.S_alloc | apply Kd.S_drewN | apply Kd.S_drew)); exact HO701.out) (Kd.R_base ho0) hb); have n3_ := Aside0.mk (Kd.R_elder' (by (with_reducible repeat (first | apply Kd.R_alloc | apply Kd.R_drewN | apply Kd.R_drew)); exact HO706.out) (Kd.R_base ho0) hb); have n4_ := Aside0.mk (Kd.R_lower (Kd.R_new' (Kd.R_new' ho0 (Kd.R_lt (by (with_reducible repeat (first | apply Kd.R_alloc | apply Kd.R_drewN | apply Kd.R_drew)); exact HO698.out))) (Kd.R_lt (by (with_reducible repeat (first | apply Kd.R_alloc | apply Kd.R_drewN | apply Kd.R_drew)); exact HO706.out))) (below_size (by repeat (first | (with_reducible first | exact HB.out | apply below_alloc | apply pw_below_drewN | apply below_drew1 | refine below_set ?_ GE691.out) | exact HB.out)))); have n5_ := Aside0.mk (blk_below (g := gb691) (o := .cells #[.slice A0_0 l0_0.length c0_0, .slice A0_1 l0_1.length c0_1, .slice A0_2 l0_2.length c0_2, .int .i64 x692003_1, .int .i64 x692004_1] 27 (0, 0)) (by (with_reducible repeat (first | refine blk_drewN ?_ _ | refine blk_drew ?_ | refine blk_alloc ?_ _)); exact BK691.out) hb); have n6_ := Aside0.mk (below_step (by repeat (first | (with_reducible first | exact HB.out | apply below_alloc | apply pw_below_drewN | apply below_drew1 | refine below_set ?_ GE691.out) | exact HB.out)) hb); clear HO_5; clear HO698; clear HO701; clear HO706; clear BK691; clear HB; have HO_5 := n0_; have HO698 := n1_; have HO701 := n2_; have HO706 := n3_; have HO709 := n4_; have BK691 := n5_; have HB := n6_; clear n0_ n1_ n2_ n3_ n4_ n5_ n6_; (try clear hb); (try clear hb2); (try clear hk); (try clear hi); (try clear ho0); obtain ⟨Ao60, co60, eo60⟩ := Kd.R_slice HO706.out; subst eo60; obtain ⟨Ao61, co61, eo61⟩ := Kd.R_slice HO709.out; subst eo61) | (go_at_call 76; (with_reducible refine (spec_l08Less.calls k1 _ _ t704 _ _ t707 false _ ?side1 ?side2 ?side3 ?side4 A36.out).mono ?_); (case side1 => repeat (first | exact (Kd.R_reads' HO706.out).2.2 | (with_reducible first | refine Kd.C_alloc ?_ _ | refine Kd.C_drewN ?_ _ | refine Kd.C_drew ?_))); (case side2 => exact (Kd.R_reads' HO706.out).2.1); (case side3 => repeat (first | exact (Kd.R_reads' HO709.out).2.2 | (with_reducible first | refine Kd.C_alloc ?_ _ | refine Kd.C_drewN ?_ _ | refine Kd.C_drew ?_))); (case side4 => exact (Kd.R_reads' HO709.out).2.1); rintro e w' ⟨rfl, ⟨nd, rfl⟩⟩))
           go_roundg k1
           case measure => have := HK1.out; omega
           case rel => exact ⟨(x5_1), (x6_1), (wrap64 (x7_1 + 1)), (x692003_1), (x692004_1), (by first | rfl | (simp; done) | (simp [*]; done) | (simp [tz_, *]; done)), (by first | rfl | (simp; done) | (simp [*]; done) | (simp [tz_, *]; done)), H', ⟨by have := HK1.out; omega⟩, ⟨by (with_reducible repeat (first | apply Kd.S_alloc | apply Kd.S_drewN | apply Kd.S_drew)); exact Kd.S_mono HO_5.out (fun _ hk => trivial)⟩, ⟨by (with_reducible repeat (first | refine blk_drewN ?_ _ | refine blk_drew ?_ | refine blk_alloc ?_ _)); exact BK691.out⟩, ⟨by repeat (first | (with_reducible first | exact HB.out | apply below_alloc | apply pw_below_drewN | apply below_drew1 | refine below_set ?_ GE691.out) | exact HB.out)⟩⟩
         ·rw [if_neg c33] at H
          have c33b0 : (t703 == x6_1) = false := beq_eq_false_iff_ne.mpr c33
          have c33b1 : (t703 != x6_1) = true := bne_iff_ne.mpr c33
          have H' := Aside0.mk H
          clear H
          have hcz62_0 : wr.cell? ⟨gb691, 0, none⟩ = some (.slice A0_0 l0_0.length c0_0) := (blk_cell BK691.out 0).trans rfl
          have hcz62_1 : wr.cell? ⟨gb691, 1, none⟩ = some (.slice A0_1 l0_1.length c0_1) := (blk_cell BK691.out 1).trans rfl
          have hcz62_2 : wr.cell? ⟨gb691, 2, none⟩ = some (.slice A0_2 l0_2.length c0_2) := (blk_cell BK691.out 2).trans rfl
          have hcz62_3 : wr.cell? ⟨gb691, 3, none⟩ = some (.int .i64 x692003_1) := (blk_cell BK691.out 3).trans rfl
          have hcz62_4 : wr.cell? ⟨gb691, 4, none⟩ = some (.int .i64 x692004_1) := (blk_cell BK691.out 4).trans rfl
          have hfz62_0 := blk_frozen BK691.out 0
          have hfz62_1 := blk_frozen BK691.out 1
          have hfz62_2 := blk_frozen BK691.out 2
          have hfz62_3 := blk_frozen BK691.out 3
          have hfz62_4 := blk_frozen BK691.out 4
          go_wp2_with (first | ((with_reducible refine gate_callee (f := 74) rfl ?_); refine goesL_ (some 23) rfl rfl Try.func74 (by kernel_rfl) rfl #[.pointer (some ⟨gb691, 0, none⟩), .int .i64 x7_1] rfl (by (try simp only [List.map_toArray, List.map_cons, List.map_nil]); first | done | rfl) ?_; (with_reducible refine (spec_l08Some.calls k1 gb691 A0_0 c0_0 l0_0 A0_1 c0_1 l0_1 A0_2 c0_2 l0_2 x692003_1 x692004_1 x7_1 t696 _ ?side1 ?side2 ?side3 ?side4 ?side5 ?side6 ?side7 A12.out).mono ?_); (case side1 => repeat (first | exact (Kd.C_below HR0_0.out HB.out) | (with_reducible first | refine Kd.C_alloc ?_ _ | refine Kd.C_drewN ?_ _ | refine Kd.C_drew ?_))); (case side2 => exact HC0_0.out); (case side3 => repeat (first | exact (Kd.C_below HR0_1.out HB.out) | (with_reducible first | refine Kd.C_alloc ?_ _ | refine Kd.C_drewN ?_ _ | refine Kd.C_drew ?_))); (case side4 => exact HC0_1.out); (case side5 => repeat (first | exact (Kd.C_below HR0_2.out HB.out) | (with_reducible first | refine Kd.C_alloc ?_ _ | refine Kd.C_drewN ?_ _ | refine Kd.C_drew ?_))); (case side6 => exact HC0_2.out); (case side7 => exact (by (with_reducible repeat (first | refine blk_drewN ?_ _ | refine blk_drew ?_ | refine blk_alloc ?_ _)); exact BK691.out)); rintro e w63 ⟨v697, rfl, ho0, hb⟩; refine ⟨_, rfl, ?_⟩; have n0_ := Aside0.mk (Kd.S_elder' (by (with_reducible repeat (first | apply Kd.S_alloc | apply Kd.S_drewN | apply Kd.S_drew)); exact HO_5.out) (Kd.R_base ho0) hb); have n1_ := Aside0.mk (Kd.R_lower ho0 (below_size (by repeat (first | (with_reducible first | exact HB.out | apply below_alloc | apply pw_below_drewN | apply below_drew1 | refine below_set ?_ GE691.out) | exact HB.out)))); have n2_ := Aside0.mk (blk_below (g := gb691) (o := .cells #[.slice A0_0 l0_0.length c0_0, .slice A0_1 l0_1.length c0_1, .slice A0_2 l0_2.length c0_2, .int .i64 x692003_1, .int .i64 x692004_1] 27 (0, 0)) (by (with_reducible repeat (first | refine blk_drewN ?_ _ | refine blk_drew ?_ | refine blk_alloc ?_ _)); exact BK691.out) hb); have n3_ := Aside0.mk (below_step (by repeat (first | (with_reducible first | exact HB.out | apply below_alloc | apply pw_below_drewN | apply below_drew1 | refine below_set ?_ GE691.out) | exact HB.out)) hb); clear HO_5; clear BK691; clear HB; have HO_5 := n0_; have HO698 := n1_; have BK691 := n2_; have HB := n3_; clear n0_ n1_ n2_ n3_; (try clear hb); (try clear hb2); (try clear hk); (try clear hi); (try clear ho0); obtain ⟨Ao64, co64, eo64⟩ := Kd.R_slice HO698.out; subst eo64) | ((with_reducible refine gate_callee (f := 72) rfl ?_); refine goesL_ (some 24) rfl rfl Try.func72 (by kernel_rfl) rfl #[.pointer (some ⟨gb691, 0, none⟩), .slice Ao64 t696.length co64] rfl (by (try simp only [List.map_toArray, List.map_cons, List.map_nil]); first | done | rfl) ?_; (with_reducible refine (spec_l08For.calls k1 gb691 A0_0 c0_0 l0_0 A0_1 c0_1 l0_1 A0_2 c0_2 l0_2 x692003_1 x692004_1 _ _ t696 t699 _ ?side1 ?side2 ?side3 ?side4 ?side5 ?side6 ?side7 ?side8 ?side9 A13.out).mono ?_); (case side1 => repeat (first | exact (Kd.C_below HR0_0.out HB.out) | (with_reducible first | refine Kd.C_alloc ?_ _ | refine Kd.C_drewN ?_ _ | refine Kd.C_drew ?_))); (case side2 => exact HC0_0.out); (case side3 => repeat (first | exact (Kd.C_below HR0_1.out HB.out) | (with_reducible first | refine Kd.C_alloc ?_ _ | refine Kd.C_drewN ?_ _ | refine Kd.C_drew ?_))); (case side4 => exact HC0_1.out); (case side5 => repeat (first | exact (Kd.C_below HR0_2.out HB.out) | (with_reducible first | refine Kd.C_alloc ?_ _ | refine Kd.C_drewN ?_ _ | refine Kd.C_drew ?_))); (case side6 => exact HC0_2.out); (case side7 => repeat (first | exact (Kd.R_reads' HO698.out).2.2 | (with_reducible first | refine Kd.C_alloc ?_ _ | refine Kd.C_drewN ?_ _ | refine Kd.C_drew ?_))); (case side8 => exact (Kd.R_reads' HO698.out).2.1); (case side9 => exact (by (with_reducible repeat (first | refine blk_drewN ?_ _ | refine blk_drew ?_ | refine blk_alloc ?_ _)); exact BK691.out)); rintro e w65 ⟨v700, rfl, ho0, hb⟩; refine ⟨_, rfl, ?_⟩; have n0_ := Aside0.mk (Kd.S_elder' (by (with_reducible repeat (first | apply Kd.S_alloc | apply Kd.S_drewN | apply Kd.S_drew)); exact HO_5.out) (Kd.S_base ho0) hb); have n1_ := Aside0.mk (Kd.R_below (by (with_reducible repeat (first | apply Kd.R_alloc | apply Kd.R_drewN | apply Kd.R_drew)); exact HO698.out) hb); have n2_ := Aside0.mk (Kd.S_lower (Kd.S_new' (Kd.S_new' ho0 (Kd.S_lt (by (with_reducible repeat (first | apply Kd.S_alloc | apply Kd.S_drewN | apply Kd.S_drew)); exact HO_5.out))) (Kd.R_lt (by (with_reducible repeat (first | apply Kd.R_alloc | apply Kd.R_drewN | apply Kd.R_drew)); exact HO698.out))) (below_size (by repeat (first | (with_reducible first | exact HB.out | apply below_alloc | apply pw_below_drewN | apply below_drew1 | refine below_set ?_ GE691.out) | exact HB.out)))); have n3_ := Aside0.mk (blk_below (g := gb691) (o := .cells #[.slice A0_0 l0_0.length c0_0, .slice A0_1 l0_1.length c0_1, .slice A0_2 l0_2.length c0_2, .int .i64 x692003_1, .int .i64 x692004_1] 27 (0, 0)) (by (with_reducible repeat (first | refine blk_drewN ?_ _ | refine blk_drew ?_ | refine blk_alloc ?_ _)); exact BK691.out) hb); have n4_ := Aside0.mk (below_step (by repeat (first | (with_reducible first | exact HB.out | apply below_alloc | apply pw_below_drewN | apply below_drew1 | refine below_set ?_ GE691.out) | exact HB.out)) hb); clear HO_5; clear HO698; clear BK691; clear HB; have HO_5 := n0_; have HO698 := n1_; have HO701 := n2_; have BK691 := n3_; have HB := n4_; clear n0_ n1_ n2_ n3_ n4_; (try clear hb); (try clear hb2); (try clear hk); (try clear hi); (try clear ho0); obtain ⟨Ao66, co66, eo66⟩ := Kd.S_slice HO701.out; subst eo66) | ((with_reducible refine gate_callee (f := 73) rfl ?_); refine goesL_ (some 26) rfl rfl Try.func73 (by kernel_rfl) rfl #[.pointer (some ⟨gb691, 0, none⟩), .slice Ao66 t699.length co66] rfl (by (try simp only [List.map_toArray, List.map_cons, List.map_nil]); first | done | rfl) ?_; (with_reducible refine (spec_l08Enough.calls k1 gb691 A0_0 c0_0 l0_0 A0_1 c0_1 l0_1 A0_2 c0_2 l0_2 x692003_1 x692004_1 _ _ t699 true _ ?side1 ?side2 ?side3 ?side4 ?side5 ?side6 ?side7 ?side8 ?side9 A14.out).mono ?_); (case side1 => repeat (first | exact (Kd.C_below HR0_0.out HB.out) | (with_reducible first | refine Kd.C_alloc ?_ _ | refine Kd.C_drewN ?_ _ | refine Kd.C_drew ?_))); (case side2 => exact HC0_0.out); (case side3 => repeat (first | exact (Kd.C_below HR0_1.out HB.out) | (with_reducible first | refine Kd.C_alloc ?_ _ | refine Kd.C_drewN ?_ _ | refine Kd.C_drew ?_))); (case side4 => exact HC0_1.out); (case side5 => repeat (first | exact (Kd.C_below HR0_2.out HB.out) | (with_reducible first | refine Kd.C_alloc ?_ _ | refine Kd.C_drewN ?_ _ | refine Kd.C_drew ?_))); (case side6 => exact HC0_2.out); (case side7 => repeat (first | exact (Kd.S_reads' HO701.out).2.2 | (with_reducible first | refine Kd.C_alloc ?_ _ | refine Kd.C_drewN ?_ _ | refine Kd.C_drew ?_))); (case side8 => exact (Kd.S_reads' HO701.out).2.1); (case side9 => exact (by (with_reducible repeat (first | refine blk_drewN ?_ _ | refine blk_drew ?_ | refine blk_alloc ?_ _)); exact BK691.out)); rintro e w67 ⟨rfl, hb⟩; refine ⟨_, rfl, ?_⟩; have n0_ := Aside0.mk (Kd.S_below (by (with_reducible repeat (first | apply Kd.S_alloc | apply Kd.S_drewN | apply Kd.S_drew)); exact HO_5.out) hb); have n1_ := Aside0.mk (Kd.R_below (by (with_reducible repeat (first | apply Kd.R_alloc | apply Kd.R_drewN | apply Kd.R_drew)); exact HO698.out) hb); have n2_ := Aside0.mk (Kd.S_below (by (with_reducible repeat (first | apply Kd.S_alloc | apply Kd.S_drewN | apply Kd.S_drew)); exact HO701.out) hb); have n3_ := Aside0.mk (blk_below (g := gb691) (o := .cells #[.slice A0_0 l0_0.length c0_0, .slice A0_1 l0_1.length c0_1, .slice A0_2 l0_2.length c0_2, .int .i64 x692003_1, .int .i64 x692004_1] 27 (0, 0)) (by (with_reducible repeat (first | refine blk_drewN ?_ _ | refine blk_drew ?_ | refine blk_alloc ?_ _)); exact BK691.out) hb); have n4_ := Aside0.mk (below_step (by repeat (first | (with_reducible first | exact HB.out | apply below_alloc | apply pw_below_drewN | apply below_drew1 | refine below_set ?_ GE691.out) | exact HB.out)) hb); clear HO_5; clear HO698; clear HO701; clear BK691; clear HB; have HO_5 := n0_; have HO698 := n1_; have HO701 := n2_; have BK691 := n3_; have HB := n4_; clear n0_ n1_ n2_ n3_ n4_; (try clear hb); (try clear hb2); (try clear hk); (try clear hi)) | ((with_reducible refine gate_callee (f := 75) rfl ?_); refine goesL_ (some 29) rfl rfl Try.func75 (by kernel_rfl) rfl #[.pointer (some ⟨gb691, 0, none⟩), .slice Ao66 t699.length co66] rfl (by (try simp only [List.map_toArray, List.map_cons, List.map_nil]); first | done | rfl) ?_; (with_reducible refine (spec_l08Cost.calls k1 gb691 A0_0 c0_0 l0_0 A0_1 c0_1 l0_1 A0_2 c0_2 l0_2 x692003_1 x692004_1 _ _ t699 t703 _ ?side1 ?side2 ?side3 ?side4 ?side5 ?side6 ?side7 ?side8 ?side9 A16.out).mono ?_); (case side1 => repeat (first | exact (Kd.C_below HR0_0.out HB.out) | (with_reducible first | refine Kd.C_alloc ?_ _ | refine Kd.C_drewN ?_ _ | refine Kd.C_drew ?_))); (case side2 => exact HC0_0.out); (case side3 => repeat (first | exact (Kd.C_below HR0_1.out HB.out) | (with_reducible first | refine Kd.C_alloc ?_ _ | refine Kd.C_drewN ?_ _ | refine Kd.C_drew ?_))); (case side4 => exact HC0_1.out); (case side5 => repeat (first | exact (Kd.C_below HR0_2.out HB.out) | (with_reducible first | refine Kd.C_alloc ?_ _ | refine Kd.C_drewN ?_ _ | refine Kd.C_drew ?_))); (case side6 => exact HC0_2.out); (case side7 => repeat (first | exact (Kd.S_reads' HO701.out).2.2 | (with_reducible first | refine Kd.C_alloc ?_ _ | refine Kd.C_drewN ?_ _ | refine Kd.C_drew ?_))); (case side8 => exact (Kd.S_reads' HO701.out).2.1); (case side9 => exact (by (with_reducible repeat (first | refine blk_drewN ?_ _ | refine blk_drew ?_ | refine blk_alloc ?_ _)); exact BK691.out)); rintro e w68 ⟨rfl, hb⟩; (try (have db_ : ∀ {w w' : World}, Drawn0 w w' → Below w.heap.size w w' := (by intro w w' h_; obtain ⟨n_, rfl⟩ := h_; exact pw_below_drewN (Below.refl _ _) _); replace hb := db_ hb; clear db_)); refine ⟨_, rfl, ?_⟩; have n0_ := Aside0.mk (Kd.S_below (by (with_reducible repeat (first | apply Kd.S_alloc | apply Kd.S_drewN | apply Kd.S_drew)); exact HO_5.out) hb); have n1_ := Aside0.mk (Kd.R_below (by (with_reducible repeat (first | apply Kd.R_alloc | apply Kd.R_drewN | apply Kd.R_drew)); exact HO698.out) hb); have n2_ := Aside0.mk (Kd.S_below (by (with_reducible repeat (first | apply Kd.S_alloc | apply Kd.S_drewN | apply Kd.S_drew)); exact HO701.out) hb); have n3_ := Aside0.mk (blk_below (g := gb691) (o := .cells #[.slice A0_0 l0_0.length c0_0, .slice A0_1 l0_1.length c0_1, .slice A0_2 l0_2.length c0_2, .int .i64 x692003_1, .int .i64 x692004_1] 27 (0, 0)) (by (with_reducible repeat (first | refine blk_drewN ?_ _ | refine blk_drew ?_ | refine blk_alloc ?_ _)); exact BK691.out) hb); have n4_ := Aside0.mk (below_step (by repeat (first | (with_reducible first | exact HB.out | apply below_alloc | apply pw_below_drewN | apply below_drew1 | refine below_set ?_ GE691.out) | exact HB.out)) hb); clear HO_5; clear HO698; clear HO701; clear BK691; clear HB; have HO_5 := n0_; have HO698 := n1_; have HO701 := n2_; have BK691 := n3_; have HB := n4_; clear n0_ n1_ n2_ n3_ n4_; (try clear hb); (try clear hb2); (try clear hk); (try clear hi)))
          go_roundg k1
          case measure => have := HK1.out; omega
          case rel => exact ⟨(x5_1), (x6_1), (wrap64 (x7_1 + 1)), (x692003_1), (x692004_1), (by first | rfl | (simp; done) | (simp [*]; done) | (simp [tz_, *]; done)), (by first | rfl | (simp; done) | (simp [*]; done) | (simp [tz_, *]; done)), H', ⟨by have := HK1.out; omega⟩, ⟨by (with_reducible repeat (first | apply Kd.S_alloc | apply Kd.S_drewN | apply Kd.S_drew)); exact Kd.S_mono HO_5.out (fun _ hk => trivial)⟩, ⟨by (with_reducible repeat (first | refine blk_drewN ?_ _ | refine blk_drew ?_ | refine blk_alloc ?_ _)); exact BK691.out⟩, ⟨by repeat (first | (with_reducible first | exact HB.out | apply below_alloc | apply pw_below_drewN | apply below_drew1 | refine below_set ?_ GE691.out) | exact HB.out)⟩⟩
      ·replace c15 := Bool.eq_false_iff.mpr c15
       subst c15
       have H1 : (spec_CheapestPlan.l0 k1 x5_1 x6_1 (wrap64 (x7_1 + 1)) l0_0 l0_1 l0_2 x692003_1 x692004_1) = some (r1, r2, r3) := by rw [if_neg (show ¬ (false = true) by decide)] at H; exact H
       clear H
       have H := H1
       clear H1
       have H' := Aside0.mk H
       clear H
       have hcz69_0 : wr.cell? ⟨gb691, 0, none⟩ = some (.slice A0_0 l0_0.length c0_0) := (blk_cell BK691.out 0).trans rfl
       have hcz69_1 : wr.cell? ⟨gb691, 1, none⟩ = some (.slice A0_1 l0_1.length c0_1) := (blk_cell BK691.out 1).trans rfl
       have hcz69_2 : wr.cell? ⟨gb691, 2, none⟩ = some (.slice A0_2 l0_2.length c0_2) := (blk_cell BK691.out 2).trans rfl
       have hcz69_3 : wr.cell? ⟨gb691, 3, none⟩ = some (.int .i64 x692003_1) := (blk_cell BK691.out 3).trans rfl
       have hcz69_4 : wr.cell? ⟨gb691, 4, none⟩ = some (.int .i64 x692004_1) := (blk_cell BK691.out 4).trans rfl
       have hfz69_0 := blk_frozen BK691.out 0
       have hfz69_1 := blk_frozen BK691.out 1
       have hfz69_2 := blk_frozen BK691.out 2
       have hfz69_3 := blk_frozen BK691.out 3
       have hfz69_4 := blk_frozen BK691.out 4
       go_wp2_with (first | ((with_reducible refine gate_callee (f := 74) rfl ?_); refine goesL_ (some 23) rfl rfl Try.func74 (by kernel_rfl) rfl #[.pointer (some ⟨gb691, 0, none⟩), .int .i64 x7_1] rfl (by (try simp only [List.map_toArray, List.map_cons, List.map_nil]); first | done | rfl) ?_; (with_reducible refine (spec_l08Some.calls k1 gb691 A0_0 c0_0 l0_0 A0_1 c0_1 l0_1 A0_2 c0_2 l0_2 x692003_1 x692004_1 x7_1 t696 _ ?side1 ?side2 ?side3 ?side4 ?side5 ?side6 ?side7 A12.out).mono ?_); (case side1 => repeat (first | exact (Kd.C_below HR0_0.out HB.out) | (with_reducible first | refine Kd.C_alloc ?_ _ | refine Kd.C_drewN ?_ _ | refine Kd.C_drew ?_))); (case side2 => exact HC0_0.out); (case side3 => repeat (first | exact (Kd.C_below HR0_1.out HB.out) | (with_reducible first | refine Kd.C_alloc ?_ _ | refine Kd.C_drewN ?_ _ | refine Kd.C_drew ?_))); (case side4 => exact HC0_1.out); (case side5 => repeat (first | exact (Kd.C_below HR0_2.out HB.out) | (with_reducible first | refine Kd.C_alloc ?_ _ | refine Kd.C_drewN ?_ _ | refine Kd.C_drew ?_))); (case side6 => exact HC0_2.out); (case side7 => exact (by (with_reducible repeat (first | refine blk_drewN ?_ _ | refine blk_drew ?_ | refine blk_alloc ?_ _)); exact BK691.out)); rintro e w70 ⟨v697, rfl, ho0, hb⟩; refine ⟨_, rfl, ?_⟩; have n0_ := Aside0.mk (Kd.S_elder' (by (with_reducible repeat (first | apply Kd.S_alloc | apply Kd.S_drewN | apply Kd.S_drew)); exact HO_5.out) (Kd.R_base ho0) hb); have n1_ := Aside0.mk (Kd.R_lower ho0 (below_size (by repeat (first | (with_reducible first | exact HB.out | apply below_alloc | apply pw_below_drewN | apply below_drew1 | refine below_set ?_ GE691.out) | exact HB.out)))); have n2_ := Aside0.mk (blk_below (g := gb691) (o := .cells #[.slice A0_0 l0_0.length c0_0, .slice A0_1 l0_1.length c0_1, .slice A0_2 l0_2.length c0_2, .int .i64 x692003_1, .int .i64 x692004_1] 27 (0, 0)) (by (with_reducible repeat (first | refine blk_drewN ?_ _ | refine blk_drew ?_ | refine blk_alloc ?_ _)); exact BK691.out) hb); have n3_ := Aside0.mk (below_step (by repeat (first | (with_reducible first | exact HB.out | apply below_alloc | apply pw_below_drewN | apply below_drew1 | refine below_set ?_ GE691.out) | exact HB.out)) hb); clear HO_5; clear BK691; clear HB; have HO_5 := n0_; have HO698 := n1_; have BK691 := n2_; have HB := n3_; clear n0_ n1_ n2_ n3_; (try clear hb); (try clear hb2); (try clear hk); (try clear hi); (try clear ho0); obtain ⟨Ao71, co71, eo71⟩ := Kd.R_slice HO698.out; subst eo71) | ((with_reducible refine gate_callee (f := 72) rfl ?_); refine goesL_ (some 24) rfl rfl Try.func72 (by kernel_rfl) rfl #[.pointer (some ⟨gb691, 0, none⟩), .slice Ao71 t696.length co71] rfl (by (try simp only [List.map_toArray, List.map_cons, List.map_nil]); first | done | rfl) ?_; (with_reducible refine (spec_l08For.calls k1 gb691 A0_0 c0_0 l0_0 A0_1 c0_1 l0_1 A0_2 c0_2 l0_2 x692003_1 x692004_1 _ _ t696 t699 _ ?side1 ?side2 ?side3 ?side4 ?side5 ?side6 ?side7 ?side8 ?side9 A13.out).mono ?_); (case side1 => repeat (first | exact (Kd.C_below HR0_0.out HB.out) | (with_reducible first | refine Kd.C_alloc ?_ _ | refine Kd.C_drewN ?_ _ | refine Kd.C_drew ?_))); (case side2 => exact HC0_0.out); (case side3 => repeat (first | exact (Kd.C_below HR0_1.out HB.out) | (with_reducible first | refine Kd.C_alloc ?_ _ | refine Kd.C_drewN ?_ _ | refine Kd.C_drew ?_))); (case side4 => exact HC0_1.out); (case side5 => repeat (first | exact (Kd.C_below HR0_2.out HB.out) | (with_reducible first | refine Kd.C_alloc ?_ _ | refine Kd.C_drewN ?_ _ | refine Kd.C_drew ?_))); (case side6 => exact HC0_2.out); (case side7 => repeat (first | exact (Kd.R_reads' HO698.out).2.2 | (with_reducible first | refine Kd.C_alloc ?_ _ | refine Kd.C_drewN ?_ _ | refine Kd.C_drew ?_))); (case side8 => exact (Kd.R_reads' HO698.out).2.1); (case side9 => exact (by (with_reducible repeat (first | refine blk_drewN ?_ _ | refine blk_drew ?_ | refine blk_alloc ?_ _)); exact BK691.out)); rintro e w72 ⟨v700, rfl, ho0, hb⟩; refine ⟨_, rfl, ?_⟩; have n0_ := Aside0.mk (Kd.S_elder' (by (with_reducible repeat (first | apply Kd.S_alloc | apply Kd.S_drewN | apply Kd.S_drew)); exact HO_5.out) (Kd.S_base ho0) hb); have n1_ := Aside0.mk (Kd.R_below (by (with_reducible repeat (first | apply Kd.R_alloc | apply Kd.R_drewN | apply Kd.R_drew)); exact HO698.out) hb); have n2_ := Aside0.mk (Kd.S_lower (Kd.S_new' (Kd.S_new' ho0 (Kd.S_lt (by (with_reducible repeat (first | apply Kd.S_alloc | apply Kd.S_drewN | apply Kd.S_drew)); exact HO_5.out))) (Kd.R_lt (by (with_reducible repeat (first | apply Kd.R_alloc | apply Kd.R_drewN | apply Kd.R_drew)); exact HO698.out))) (below_size (by repeat (first | (with_reducible first | exact HB.out | apply below_alloc | apply pw_below_drewN | apply below_drew1 | refine below_set ?_ GE691.out) | exact HB.out)))); have n3_ := Aside0.mk (blk_below (g := gb691) (o := .cells #[.slice A0_0 l0_0.length c0_0, .slice A0_1 l0_1.length c0_1, .slice A0_2 l0_2.length c0_2, .int .i64 x692003_1, .int .i64 x692004_1] 27 (0, 0)) (by (with_reducible repeat (first | refine blk_drewN ?_ _ | refine blk_drew ?_ | refine blk_alloc ?_ _)); exact BK691.out) hb); have n4_ := Aside0.mk (below_step (by repeat (first | (with_reducible first | exact HB.out | apply below_alloc | apply pw_below_drewN | apply below_drew1 | refine below_set ?_ GE691.out) | exact HB.out)) hb); clear HO_5; clear HO698; clear BK691; clear HB; have HO_5 := n0_; have HO698 := n1_; have HO701 := n2_; have BK691 := n3_; have HB := n4_; clear n0_ n1_ n2_ n3_ n4_; (try clear hb); (try clear hb2); (try clear hk); (try clear hi); (try clear ho0); obtain ⟨Ao73, co73, eo73⟩ := Kd.S_slice HO701.out; subst eo73) | ((with_reducible refine gate_callee (f := 73) rfl ?_); refine goesL_ (some 26) rfl rfl Try.func73 (by kernel_rfl) rfl #[.pointer (some ⟨gb691, 0, none⟩), .slice Ao73 t699.length co73] rfl (by (try simp only [List.map_toArray, List.map_cons, List.map_nil]); first | done | rfl) ?_; (with_reducible refine (spec_l08Enough.calls k1 gb691 A0_0 c0_0 l0_0 A0_1 c0_1 l0_1 A0_2 c0_2 l0_2 x692003_1 x692004_1 _ _ t699 false _ ?side1 ?side2 ?side3 ?side4 ?side5 ?side6 ?side7 ?side8 ?side9 A14.out).mono ?_); (case side1 => repeat (first | exact (Kd.C_below HR0_0.out HB.out) | (with_reducible first | refine Kd.C_alloc ?_ _ | refine Kd.C_drewN ?_ _ | refine Kd.C_drew ?_))); (case side2 => exact HC0_0.out); (case side3 => repeat (first | exact (Kd.C_below HR0_1.out HB.out) | (with_reducible first | refine Kd.C_alloc ?_ _ | refine Kd.C_drewN ?_ _ | refine Kd.C_drew ?_))); (case side4 => exact HC0_1.out); (case side5 => repeat (first | exact (Kd.C_below HR0_2.out HB.out) | (with_reducible first | refine Kd.C_alloc ?_ _ | refine Kd.C_drewN ?_ _ | refine Kd.C_drew ?_))); (case side6 => exact HC0_2.out); (case side7 => repeat (first | exact (Kd.S_reads' HO701.out).2.2 | (with_reducible first | refine Kd.C_alloc ?_ _ | refine Kd.C_drewN ?_ _ | refine Kd.C_drew ?_))); (case side8 => exact (Kd.S_reads' HO701.out).2.1); (case side9 => exact (by (with_reducible repeat (first | refine blk_drewN ?_ _ | refine blk_drew ?_ | refine blk_alloc ?_ _)); exact BK691.out)); rintro e w74 ⟨rfl, hb⟩; refine ⟨_, rfl, ?_⟩; have n0_ := Aside0.mk (Kd.S_below (by (with_reducible repeat (first | apply Kd.S_alloc | apply Kd.S_drewN | apply Kd.S_drew)); exact HO_5.out) hb); have n1_ := Aside0.mk (Kd.R_below (by (with_reducible repeat (first | apply Kd.R_alloc | apply Kd.R_drewN | apply Kd.R_drew)); exact HO698.out) hb); have n2_ := Aside0.mk (Kd.S_below (by (with_reducible repeat (first | apply Kd.S_alloc | apply Kd.S_drewN | apply Kd.S_drew)); exact HO701.out) hb); have n3_ := Aside0.mk (blk_below (g := gb691) (o := .cells #[.slice A0_0 l0_0.length c0_0, .slice A0_1 l0_1.length c0_1, .slice A0_2 l0_2.length c0_2, .int .i64 x692003_1, .int .i64 x692004_1] 27 (0, 0)) (by (with_reducible repeat (first | refine blk_drewN ?_ _ | refine blk_drew ?_ | refine blk_alloc ?_ _)); exact BK691.out) hb); have n4_ := Aside0.mk (below_step (by repeat (first | (with_reducible first | exact HB.out | apply below_alloc | apply pw_below_drewN | apply below_drew1 | refine below_set ?_ GE691.out) | exact HB.out)) hb); clear HO_5; clear HO698; clear HO701; clear BK691; clear HB; have HO_5 := n0_; have HO698 := n1_; have HO701 := n2_; have BK691 := n3_; have HB := n4_; clear n0_ n1_ n2_ n3_ n4_; (try clear hb); (try clear hb2); (try clear hk); (try clear hi)))
       go_roundg k1
       case measure => have := HK1.out; omega
       case rel => exact ⟨(x5_1), (x6_1), (wrap64 (x7_1 + 1)), (x692003_1), (x692004_1), (by first | rfl | (simp; done) | (simp [*]; done) | (simp [tz_, *]; done)), (by first | rfl | (simp; done) | (simp [*]; done) | (simp [tz_, *]; done)), H', ⟨by have := HK1.out; omega⟩, ⟨by (with_reducible repeat (first | apply Kd.S_alloc | apply Kd.S_drewN | apply Kd.S_drew)); exact Kd.S_mono HO_5.out (fun _ hk => trivial)⟩, ⟨by (with_reducible repeat (first | refine blk_drewN ?_ _ | refine blk_drew ?_ | refine blk_alloc ?_ _)); exact BK691.out⟩, ⟨by repeat (first | (with_reducible first | exact HB.out | apply below_alloc | apply pw_below_drewN | apply below_drew1 | refine below_set ?_ GE691.out) | exact HB.out)⟩⟩
     ·rw [if_neg c11] at H
      have c11b0 : decide (x7_1 < (ji10)) = false := decide_eq_false c11
      clear c11
      by_cases c75 : x6_1 < 0
      ·rw [if_pos c75] at H
       have c75b0 : decide (x6_1 < 0) = true := decide_eq_true c75
       clear c75
       simp only [Option.some.injEq, Prod.mk.injEq] at H
       obtain ⟨rfl, rfl, rfl⟩ := H
       have hcz76_0 : wr.cell? ⟨gb691, 0, none⟩ = some (.slice A0_0 l0_0.length c0_0) := (blk_cell BK691.out 0).trans rfl
       have hcz76_1 : wr.cell? ⟨gb691, 1, none⟩ = some (.slice A0_1 l0_1.length c0_1) := (blk_cell BK691.out 1).trans rfl
       have hcz76_2 : wr.cell? ⟨gb691, 2, none⟩ = some (.slice A0_2 l0_2.length c0_2) := (blk_cell BK691.out 2).trans rfl
       have hcz76_3 : wr.cell? ⟨gb691, 3, none⟩ = some (.int .i64 x692003_1) := (blk_cell BK691.out 3).trans rfl
       have hcz76_4 : wr.cell? ⟨gb691, 4, none⟩ = some (.int .i64 x692004_1) := (blk_cell BK691.out 4).trans rfl
       have hfz76_0 := blk_frozen BK691.out 0
       have hfz76_1 := blk_frozen BK691.out 1
       have hfz76_2 := blk_frozen BK691.out 2
       have hfz76_3 := blk_frozen BK691.out 3
       have hfz76_4 := blk_frozen BK691.out 4
       go_wp2
       go_ret3
       exact ⟨_, by first | rfl | (simp [errW_none, errW_some] <;> rfl) | (simp only [← hji8, ← hji10]; first | rfl | (simp [errW_none, errW_some] <;> rfl)) | (simp [*, errW_none, errW_some] <;> rfl) | (simp [tz_, *]; done), by first | exact Kd.S_nil _ _ _ _ _ | exact Kd.N_nil _ _ _ _ _ | exact Kd.V_nil _ _ _ _ _ | exact Kd.Q_nil _ _ _ _ _ | exact Kd.R_nil _ _ _ _ _, by repeat (first | (with_reducible first | exact HB.out | apply below_alloc | apply pw_below_drewN | apply below_drew1 | refine below_set ?_ GE691.out) | exact HB.out)⟩
      ·rw [if_neg c75] at H
       have c75b0 : decide (x6_1 < 0) = false := decide_eq_false c75
       clear c75
       simp only [Option.some.injEq, Prod.mk.injEq] at H
       obtain ⟨rfl, rfl, rfl⟩ := H
       have hcz77_0 : wr.cell? ⟨gb691, 0, none⟩ = some (.slice A0_0 l0_0.length c0_0) := (blk_cell BK691.out 0).trans rfl
       have hcz77_1 : wr.cell? ⟨gb691, 1, none⟩ = some (.slice A0_1 l0_1.length c0_1) := (blk_cell BK691.out 1).trans rfl
       have hcz77_2 : wr.cell? ⟨gb691, 2, none⟩ = some (.slice A0_2 l0_2.length c0_2) := (blk_cell BK691.out 2).trans rfl
       have hcz77_3 : wr.cell? ⟨gb691, 3, none⟩ = some (.int .i64 x692003_1) := (blk_cell BK691.out 3).trans rfl
       have hcz77_4 : wr.cell? ⟨gb691, 4, none⟩ = some (.int .i64 x692004_1) := (blk_cell BK691.out 4).trans rfl
       have hfz77_0 := blk_frozen BK691.out 0
       have hfz77_1 := blk_frozen BK691.out 1
       have hfz77_2 := blk_frozen BK691.out 2
       have hfz77_3 := blk_frozen BK691.out 3
       have hfz77_4 := blk_frozen BK691.out 4
       go_wp2
       go_ret3
       exact ⟨_, by first | rfl | (simp [errW_none, errW_some] <;> rfl) | (simp only [← hji8, ← hji10]; first | rfl | (simp [errW_none, errW_some] <;> rfl)) | (simp [*, errW_none, errW_some] <;> rfl) | (simp [tz_, *]; done), by (with_reducible repeat (first | apply Kd.S_alloc | apply Kd.S_drewN | apply Kd.S_drew)); exact HO_5.out, by repeat (first | (with_reducible first | exact HB.out | apply below_alloc | apply pw_below_drewN | apply below_drew1 | refine below_set ?_ GE691.out) | exact HB.out)⟩
    ·rw [if_neg c9] at H
     exact absurd H (by simp)
 ·replace c3 := Bool.eq_false_iff.mpr c3
  subst c3
  have H1 : (some (([] : List (S49)), 0, false)) = some (r1, r2, r3) := by rw [if_neg (show ¬ (false = true) by decide)] at H; exact H
  clear H
  have H := H1
  clear H1
  simp only [Option.some.injEq, Prod.mk.injEq] at H
  obtain ⟨rfl, rfl, rfl⟩ := H
  go_enter Try.func39, Try.ntmps39
  go_wp2_with (first | ((with_reducible refine gate_dst (N := 1) rfl ?_); refine box_event ?hg (N := 1) ?hd (cs := #[.slice A0_0 l0_0.length c0_0, .slice A0_1 l0_1.length c0_1, .slice A0_2 l0_2.length c0_2, .int .i64 a0_3, .int .i64 a0_4]) (t := 27) ?hr ?_; (case hd => rfl); (case hg => rfl); (case hr => first | (go_simp; done) | (go_simp; rfl)); intro gb691 hg w78 hbox hb; have n0_ := Aside0.mk (below_step (by repeat (first | (with_reducible first | exact HB.out | apply below_alloc | apply pw_below_drewN | apply below_drew1) | exact HB.out)) hb); have n1_ := Aside0.mk (hbox); have n2_ := Aside0.mk ((by rw [hg]; exact (below_size (by repeat (first | (with_reducible first | exact HB.out | apply below_alloc | apply pw_below_drewN | apply below_drew1) | exact HB.out))) : w.heap.size ≤ gb691)); have n3_ := Aside0.mk ((by rw [hg]; exact (below_size (by repeat (first | (with_reducible first | exact HB.out | apply below_alloc | apply pw_below_drewN | apply below_drew1) | exact HB.out))) : w.heap.size ≤ gb691)); clear HB; have HB := n0_; have BK691 := n1_; have GW691 := n2_; have GE691 := n3_; clear n0_ n1_ n2_ n3_; clear hb hbox hg) | ((with_reducible refine gate_callee (f := 60) rfl ?_); refine goesL_ (some 10) rfl rfl Try.func60 (by kernel_rfl) rfl #[.pointer (some ⟨gb691, 0, none⟩)] rfl (by (try simp only [List.map_toArray, List.map_cons, List.map_nil]); first | done | rfl) ?_; (with_reducible refine (spec_l08Is.calls k gb691 A0_0 c0_0 l0_0 A0_1 c0_1 l0_1 A0_2 c0_2 l0_2 a0_3 a0_4 false _ ?side1 ?side2 ?side3 ?side4 ?side5 ?side6 ?side7 A2.out).mono ?_); (case side1 => repeat (first | exact (Kd.C_below HR0_0.out HB.out) | (with_reducible first | refine Kd.C_alloc ?_ _ | refine Kd.C_drewN ?_ _ | refine Kd.C_drew ?_))); (case side2 => exact HC0_0.out); (case side3 => repeat (first | exact (Kd.C_below HR0_1.out HB.out) | (with_reducible first | refine Kd.C_alloc ?_ _ | refine Kd.C_drewN ?_ _ | refine Kd.C_drew ?_))); (case side4 => exact HC0_1.out); (case side5 => repeat (first | exact (Kd.C_below HR0_2.out HB.out) | (with_reducible first | refine Kd.C_alloc ?_ _ | refine Kd.C_drewN ?_ _ | refine Kd.C_drew ?_))); (case side6 => exact HC0_2.out); (case side7 => exact (by (with_reducible repeat (first | refine blk_drewN ?_ _ | refine blk_drew ?_ | refine blk_alloc ?_ _)); exact BK691.out)); rintro e w79 ⟨rfl, hb⟩; (try (have db_ : ∀ {w w' : World}, Drawn0 w w' → Below w.heap.size w w' := (by intro w w' h_; obtain ⟨n_, rfl⟩ := h_; exact pw_below_drewN (Below.refl _ _) _); replace hb := db_ hb; clear db_)); refine ⟨_, rfl, ?_⟩; have n0_ := Aside0.mk (blk_below (g := gb691) (o := .cells #[.slice A0_0 l0_0.length c0_0, .slice A0_1 l0_1.length c0_1, .slice A0_2 l0_2.length c0_2, .int .i64 a0_3, .int .i64 a0_4] 27 (0, 0)) (by (with_reducible repeat (first | refine blk_drewN ?_ _ | refine blk_drew ?_ | refine blk_alloc ?_ _)); exact BK691.out) hb); have n1_ := Aside0.mk (below_step (by repeat (first | (with_reducible first | exact HB.out | apply below_alloc | apply pw_below_drewN | apply below_drew1 | refine below_set ?_ GE691.out) | exact HB.out)) hb); clear BK691; clear HB; have BK691 := n0_; have HB := n1_; clear n0_ n1_; (try clear hb); (try clear hb2); (try clear hk); (try clear hi)))
  go_ret3
  exact ⟨_, by first | rfl | (simp [errW_none, errW_some] <;> rfl) | (simp [*, errW_none, errW_some] <;> rfl) | (simp [tz_, *]; done), by first | exact Kd.S_nil _ _ _ _ _ | exact Kd.N_nil _ _ _ _ _ | exact Kd.V_nil _ _ _ _ _ | exact Kd.Q_nil _ _ _ _ _ | exact Kd.R_nil _ _ _ _ _, by repeat (first | (with_reducible first | exact HB.out | apply below_alloc | apply pw_below_drewN | apply below_drew1 | refine below_set ?_ GE691.out) | exact HB.out)⟩

def laws_FnExactCheapestPlan.f (k : Nat) (l0_0 : List S113) (l0_1 : List Int) (l0_2 : List Int) (a0_3 : Int) (a0_4 : Int) : Option (Bool) :=
 (laws_szHead.f l0_0 l0_1 l0_2 a0_3 a0_4 1048576).bind fun t0 => if t0 < 0 then some true else
 (laws_toHead.f k l0_0 l0_1 l0_2 a0_3 a0_4).bind fun b0 =>
 (spec_CheapestPlan.f k b0.1 b0.2.1 b0.2.2.1 b0.2.2.2.1 b0.2.2.2.2).bind fun bw => (impl_CheapestPlan.f k b0.1 b0.2.1 b0.2.2.1 b0.2.2.2.1 b0.2.2.2.2).bind fun bg =>
 (laws_eqStopS.f k bg.1 bw.1).bind fun te => if te = true then (if bg.2.1 = bw.2.1 then (if bg.2.2 = bw.2.2 then (
 (laws_eqHead.f k b0.1 b0.2.1 b0.2.2.1 b0.2.2.2.1 b0.2.2.2.2 b0.1 b0.2.1 b0.2.2.1 b0.2.2.2.1 b0.2.2.2.2).bind fun tq0 => if tq0 = true then (
 (laws_markHead.f k b0.1 b0.2.1 b0.2.2.1 b0.2.2.2.1 b0.2.2.2.2 1).bind fun bm0 =>
 if bm0.1 < 0 then none else (laws_markStopS.f k bg.1 1).bind fun bk => (laws_heldStopS.f k bk.2 1).bind fun th => if th < 0 then none else if th = bk.1 then some true else none
 ) else none) else none) else none) else none
set_option maxHeartbeats 8000000 in
set_option maxRecDepth 100000 in
theorem laws_FnExactCheapestPlan.calls (k : Nat) (A0_0 : Option Addr) (c0_0 : Nat) (l0_0 : List S113) (A0_1 : Option Addr) (c0_1 : Nat) (l0_1 : List Int) (A0_2 : Option Addr) (c0_2 : Nat) (l0_2 : List Int) (a0_3 : Int) (a0_4 : Int) (r : Bool) (w : World) (hr0_0 : Kd.C k113 w A0_0 l0_0.length l0_0) (hc0_0 : l0_0.length ≤ c0_0) (hr0_1 : Kd.C (Kd.int .i64) w A0_1 l0_1.length l0_1) (hc0_1 : l0_1.length ≤ c0_1) (hr0_2 : Kd.C (Kd.int .i64) w A0_2 l0_2.length l0_2) (hc0_2 : l0_2.length ≤ c0_2) (h : laws_FnExactCheapestPlan.f k l0_0 l0_1 l0_2 a0_3 a0_4 = some r) :
  Calls Try.prog 8 #[.agg #[.slice A0_0 l0_0.length c0_0, .slice A0_1 l0_1.length c0_1, .slice A0_2 l0_2.length c0_2, .int .i64 a0_3, .int .i64 a0_4]] w fun e w' => e = .returned (.bool r) ∧ Below w.heap.size w w' := by
 have db : ∀ {w w' : World}, Drawn0 w w' → Below w.heap.size w w' := by
  intro w w' h_
  obtain ⟨n_, rfl⟩ := h_
  exact pw_below_drewN (Below.refl _ _) _
 have hua0 := Try.underlying53
 have hux0 := Try.underlying27
 have HR0_0 := Aside0.mk hr0_0
 have HC0_0 := Aside0.mk hc0_0
 clear hr0_0 hc0_0
 have HR0_1 := Aside0.mk hr0_1
 have HC0_1 := Aside0.mk hc0_1
 clear hr0_1 hc0_1
 have HR0_2 := Aside0.mk hr0_2
 have HC0_2 := Aside0.mk hc0_2
 clear hr0_2 hc0_2
 have HB := Aside0.mk (Below.refl w.heap.size w)
 unfold laws_FnExactCheapestPlan.f at h
 replace h := Option.bind_eq_some_iff.mp h
 obtain ⟨t0, A_0, h⟩ := h
 by_cases ce : t0 < 0
 ·rw [if_pos ce] at h
  obtain rfl := Option.some.inj h
  have ceb : decide (t0 < 0) = true := decide_eq_true ce
  clear ce h
  have Bt0 := Aside0.mk A_0
  clear A_0
  go_enter Try.func8, Try.ntmps8
  go_wp2_with (first | ((with_reducible refine gate_dst (N := 1) rfl ?_); refine box_event ?hg (N := 1) ?hd (cs := #[.slice A0_0 l0_0.length c0_0, .slice A0_1 l0_1.length c0_1, .slice A0_2 l0_2.length c0_2, .int .i64 a0_3, .int .i64 a0_4]) (t := 53) ?hr ?_; (case hd => rfl); (case hg => rfl); (case hr => first | (go_simp; done) | (go_simp; rfl)); intro ga0 hga0 w1 hbox hb; have BA0 := Aside0.mk hbox; skip; have HB_ := Aside0.mk (below_step HB.out hb); clear hb hbox hga0; clear HB; have HB := HB_; clear HB_; have hcBA00 : w1.cell? ⟨ga0, 0, none⟩ = some (.slice A0_0 l0_0.length c0_0) := (blk_cell BA0.out 0).trans rfl; have hfBA00 := blk_frozen BA0.out 0; have hcBA01 : w1.cell? ⟨ga0, 1, none⟩ = some (.slice A0_1 l0_1.length c0_1) := (blk_cell BA0.out 1).trans rfl; have hfBA01 := blk_frozen BA0.out 1; have hcBA02 : w1.cell? ⟨ga0, 2, none⟩ = some (.slice A0_2 l0_2.length c0_2) := (blk_cell BA0.out 2).trans rfl; have hfBA02 := blk_frozen BA0.out 2; have hcBA03 : w1.cell? ⟨ga0, 3, none⟩ = some (.int .i64 a0_3) := (blk_cell BA0.out 3).trans rfl; have hfBA03 := blk_frozen BA0.out 3; have hcBA04 : w1.cell? ⟨ga0, 4, none⟩ = some (.int .i64 a0_4) := (blk_cell BA0.out 4).trans rfl; have hfBA04 := blk_frozen BA0.out 4) | (go_at_call 23; (with_reducible refine (laws_szHead.calls A0_0 c0_0 l0_0 A0_1 c0_1 l0_1 A0_2 c0_2 l0_2 a0_3 a0_4 1048576 t0 _ (Kd.C_below HR0_0.out HB.out) HC0_0.out (Kd.C_below HR0_1.out HB.out) HC0_1.out (Kd.C_below HR0_2.out HB.out) HC0_2.out Bt0.out).mono ?_); rintro e w2 ⟨rfl, hb⟩; have HB_ := Aside0.mk (below_step HB.out hb); have BA0_ := Aside0.mk (blk_below (g := ga0) (o := .cells #[.slice A0_0 l0_0.length c0_0, .slice A0_1 l0_1.length c0_1, .slice A0_2 l0_2.length c0_2, .int .i64 a0_3, .int .i64 a0_4] 53 (0, 0)) BA0.out hb); clear hb; clear HB BA0; have HB := HB_; have BA0 := BA0_; clear HB_ BA0_; clear hcBA00 hfBA00 hcBA01 hfBA01 hcBA02 hfBA02 hcBA03 hfBA03 hcBA04 hfBA04; have hcBA00 : w2.cell? ⟨ga0, 0, none⟩ = some (.slice A0_0 l0_0.length c0_0) := (blk_cell BA0.out 0).trans rfl; have hfBA00 := blk_frozen BA0.out 0; have hcBA01 : w2.cell? ⟨ga0, 1, none⟩ = some (.slice A0_1 l0_1.length c0_1) := (blk_cell BA0.out 1).trans rfl; have hfBA01 := blk_frozen BA0.out 1; have hcBA02 : w2.cell? ⟨ga0, 2, none⟩ = some (.slice A0_2 l0_2.length c0_2) := (blk_cell BA0.out 2).trans rfl; have hfBA02 := blk_frozen BA0.out 2; have hcBA03 : w2.cell? ⟨ga0, 3, none⟩ = some (.int .i64 a0_3) := (blk_cell BA0.out 3).trans rfl; have hfBA03 := blk_frozen BA0.out 3; have hcBA04 : w2.cell? ⟨ga0, 4, none⟩ = some (.int .i64 a0_4) := (blk_cell BA0.out 4).trans rfl; have hfBA04 := blk_frozen BA0.out 4))
  go_ret
  exact ⟨by first | rfl | (simp; done) | (simp [*]; done) | (simp [tz_, *]; done), by repeat (first | (with_reducible first | exact HB.out | apply below_alloc | apply pw_below_drewN | apply below_drew1) | exact HB.out)⟩
 ·rw [if_neg ce] at h
  have cebt0 : decide (t0 < 0) = false := decide_eq_false ce
  clear ce
  replace h := Option.bind_eq_some_iff.mp h
  obtain ⟨⟨x0_0, x0_1, x0_2, x0_3, x0_4⟩, AT0, h⟩ := h
  replace h := Option.bind_eq_some_iff.mp h
  obtain ⟨⟨s0, s1, s2⟩, AW, h⟩ := h
  replace h := Option.bind_eq_some_iff.mp h
  obtain ⟨⟨g0, g1, g2⟩, AG, h⟩ := h
  replace h := Option.bind_eq_some_iff.mp h
  obtain ⟨te, AE, h⟩ := h
  dsimp only at AW AG AE h
  have h5 : te = true := by by_cases c : te = true; exact c; rw [if_neg c] at h; exact absurd h (by simp)
  rw [if_pos h5] at h
  subst h5
  have c6 : g1 = s1 := by by_cases c : g1 = s1; exact c; rw [if_neg c] at h; exact absurd h (by simp)
  rw [if_pos c6] at h
  have cAg1 : (g1 != s1) = false := by simpa using c6
  have cBg1 : decide (g1 = s1) = true := by simpa using c6
  have cCg1 : (g1 == s1) = true := by simpa using c6
  clear c6
  have c6 : g2 = s2 := by by_cases c : g2 = s2; exact c; rw [if_neg c] at h; exact absurd h (by simp)
  rw [if_pos c6] at h
  have cAg2 : (g2 != s2) = false := by simpa using c6
  have cBg2 : decide (g2 = s2) = true := by simpa using c6
  have cCg2 : (g2 == s2) = true := by simpa using c6
  clear c6
  replace h := Option.bind_eq_some_iff.mp h
  obtain ⟨tq0, AQ0, h⟩ := h
  have h5 : tq0 = true := by by_cases c : tq0 = true; exact c; rw [if_neg c] at h; exact absurd h (by simp)
  rw [if_pos h5] at h
  subst h5
  replace h := Option.bind_eq_some_iff.mp h
  obtain ⟨⟨q0, m0_0, m0_1, m0_2⟩, AM0, h⟩ := h
  dsimp only at h
  have c8 : ¬ q0 < 0 := by intro c; rw [if_pos c] at h; exact absurd h (by simp)
  rw [if_neg c8] at h
  have c8b0 : decide (q0 < 0) = false := decide_eq_false c8
  clear c8
  replace h := Option.bind_eq_some_iff.mp h
  obtain ⟨⟨qk, lk⟩, AK, h⟩ := h
  replace h := Option.bind_eq_some_iff.mp h
  obtain ⟨th, AH, h⟩ := h
  dsimp only at AH h
  have c11 : ¬ th < 0 := by intro c; rw [if_pos c] at h; exact absurd h (by simp)
  rw [if_neg c11] at h
  have c11b0 : decide (th < 0) = false := decide_eq_false c11
  clear c11
  have c12 : th = qk := by by_cases c : th = qk; exact c; rw [if_neg c] at h; exact absurd h (by simp)
  rw [if_pos c12] at h
  have hr := Option.some.inj h
  clear h
  subst c12
  subst hr
  have Bt0 := Aside0.mk A_0
  clear A_0
  have BT0 := Aside0.mk AT0
  clear AT0
  have BW := Aside0.mk AW
  clear AW
  have BG := Aside0.mk AG
  clear AG
  have BE := Aside0.mk AE
  clear AE
  have BQ0 := Aside0.mk AQ0
  clear AQ0
  have BM0 := Aside0.mk AM0
  clear AM0
  have BK := Aside0.mk AK
  clear AK
  have BH := Aside0.mk AH
  clear AH
  have DB := Aside0.mk @db
  clear db
  go_enter Try.func8, Try.ntmps8
  go_wp2_with (first | ((with_reducible refine gate_dst (N := 1) rfl ?_); refine box_event ?hg (N := 1) ?hd (cs := #[.slice A0_0 l0_0.length c0_0, .slice A0_1 l0_1.length c0_1, .slice A0_2 l0_2.length c0_2, .int .i64 a0_3, .int .i64 a0_4]) (t := 53) ?hr ?_; (case hd => rfl); (case hg => rfl); (case hr => first | (go_simp; done) | (go_simp; rfl)); intro ga0 hga0 w1 hbox hb; have BA0 := Aside0.mk hbox; skip; have HB_ := Aside0.mk (below_step HB.out hb); clear hb hbox hga0; clear HB; have HB := HB_; clear HB_; have hcBA00 : w1.cell? ⟨ga0, 0, none⟩ = some (.slice A0_0 l0_0.length c0_0) := (blk_cell BA0.out 0).trans rfl; have hfBA00 := blk_frozen BA0.out 0; have hcBA01 : w1.cell? ⟨ga0, 1, none⟩ = some (.slice A0_1 l0_1.length c0_1) := (blk_cell BA0.out 1).trans rfl; have hfBA01 := blk_frozen BA0.out 1; have hcBA02 : w1.cell? ⟨ga0, 2, none⟩ = some (.slice A0_2 l0_2.length c0_2) := (blk_cell BA0.out 2).trans rfl; have hfBA02 := blk_frozen BA0.out 2; have hcBA03 : w1.cell? ⟨ga0, 3, none⟩ = some (.int .i64 a0_3) := (blk_cell BA0.out 3).trans rfl; have hfBA03 := blk_frozen BA0.out 3; have hcBA04 : w1.cell? ⟨ga0, 4, none⟩ = some (.int .i64 a0_4) := (blk_cell BA0.out 4).trans rfl; have hfBA04 := blk_frozen BA0.out 4) | (go_at_call 23; (with_reducible refine (laws_szHead.calls A0_0 c0_0 l0_0 A0_1 c0_1 l0_1 A0_2 c0_2 l0_2 a0_3 a0_4 1048576 t0 _ (Kd.C_below HR0_0.out HB.out) HC0_0.out (Kd.C_below HR0_1.out HB.out) HC0_1.out (Kd.C_below HR0_2.out HB.out) HC0_2.out Bt0.out).mono ?_); rintro e w2 ⟨rfl, hb⟩; have HB_ := Aside0.mk (below_step HB.out hb); have BA0_ := Aside0.mk (blk_below (g := ga0) (o := .cells #[.slice A0_0 l0_0.length c0_0, .slice A0_1 l0_1.length c0_1, .slice A0_2 l0_2.length c0_2, .int .i64 a0_3, .int .i64 a0_4] 53 (0, 0)) BA0.out hb); clear hb; clear HB BA0; have HB := HB_; have BA0 := BA0_; clear HB_ BA0_; clear hcBA00 hfBA00 hcBA01 hfBA01 hcBA02 hfBA02 hcBA03 hfBA03 hcBA04 hfBA04; have hcBA00 : w2.cell? ⟨ga0, 0, none⟩ = some (.slice A0_0 l0_0.length c0_0) := (blk_cell BA0.out 0).trans rfl; have hfBA00 := blk_frozen BA0.out 0; have hcBA01 : w2.cell? ⟨ga0, 1, none⟩ = some (.slice A0_1 l0_1.length c0_1) := (blk_cell BA0.out 1).trans rfl; have hfBA01 := blk_frozen BA0.out 1; have hcBA02 : w2.cell? ⟨ga0, 2, none⟩ = some (.slice A0_2 l0_2.length c0_2) := (blk_cell BA0.out 2).trans rfl; have hfBA02 := blk_frozen BA0.out 2; have hcBA03 : w2.cell? ⟨ga0, 3, none⟩ = some (.int .i64 a0_3) := (blk_cell BA0.out 3).trans rfl; have hfBA03 := blk_frozen BA0.out 3; have hcBA04 : w2.cell? ⟨ga0, 4, none⟩ = some (.int .i64 a0_4) := (blk_cell BA0.out 4).trans rfl; have hfBA04 := blk_frozen BA0.out 4))
  go_wp2_with (first | (go_at_call 26; (with_reducible refine (laws_toHead.calls k A0_0 c0_0 l0_0 A0_1 c0_1 l0_1 A0_2 c0_2 l0_2 a0_3 a0_4 x0_0 x0_1 x0_2 x0_3 x0_4 _ (Kd.C_below HR0_0.out HB.out) HC0_0.out (Kd.C_below HR0_1.out HB.out) HC0_1.out (Kd.C_below HR0_2.out HB.out) HC0_2.out BT0.out).mono ?_); rintro e w3 ⟨v0, v1, v2, rfl, ho0, ho1, ho2, hb⟩; have HX0_0 := Aside0.mk ho0; have HX0_1 := Aside0.mk ho1; have HX0_2 := Aside0.mk ho2; have HB_ := Aside0.mk (below_step HB.out hb); have BA0_ := Aside0.mk (blk_below (g := ga0) (o := .cells #[.slice A0_0 l0_0.length c0_0, .slice A0_1 l0_1.length c0_1, .slice A0_2 l0_2.length c0_2, .int .i64 a0_3, .int .i64 a0_4] 53 (0, 0)) BA0.out hb); clear hb ho0 ho1 ho2; clear HB BA0; have HB := HB_; have BA0 := BA0_; clear HB_ BA0_; clear hcBA00 hfBA00 hcBA01 hfBA01 hcBA02 hfBA02 hcBA03 hfBA03 hcBA04 hfBA04; have hcBA00 : w3.cell? ⟨ga0, 0, none⟩ = some (.slice A0_0 l0_0.length c0_0) := (blk_cell BA0.out 0).trans rfl; have hfBA00 := blk_frozen BA0.out 0; have hcBA01 : w3.cell? ⟨ga0, 1, none⟩ = some (.slice A0_1 l0_1.length c0_1) := (blk_cell BA0.out 1).trans rfl; have hfBA01 := blk_frozen BA0.out 1; have hcBA02 : w3.cell? ⟨ga0, 2, none⟩ = some (.slice A0_2 l0_2.length c0_2) := (blk_cell BA0.out 2).trans rfl; have hfBA02 := blk_frozen BA0.out 2; have hcBA03 : w3.cell? ⟨ga0, 3, none⟩ = some (.int .i64 a0_3) := (blk_cell BA0.out 3).trans rfl; have hfBA03 := blk_frozen BA0.out 3; have hcBA04 : w3.cell? ⟨ga0, 4, none⟩ = some (.int .i64 a0_4) := (blk_cell BA0.out 4).trans rfl; have hfBA04 := blk_frozen BA0.out 4))
  obtain ⟨Ar0_0, cr0_0, er0_0⟩ := Kd.R_slice HX0_0.out
  subst er0_0
  obtain ⟨Ar0_1, cr0_1, er0_1⟩ := Kd.R_slice HX0_1.out
  subst er0_1
  obtain ⟨Ar0_2, cr0_2, er0_2⟩ := Kd.R_slice HX0_2.out
  subst er0_2
  go_wp2_with (first | (go_at_call 39; (with_reducible refine (spec_CheapestPlan.calls k Ar0_0 cr0_0 x0_0 Ar0_1 cr0_1 x0_1 Ar0_2 cr0_2 x0_2 x0_3 x0_4 s0 s1 s2 _ (Kd.R_reads' HX0_0.out).2.2 (Kd.R_reads' HX0_0.out).2.1 (Kd.R_reads' HX0_1.out).2.2 (Kd.R_reads' HX0_1.out).2.1 (Kd.R_reads' HX0_2.out).2.2 (Kd.R_reads' HX0_2.out).2.1 BW.out).mono ?_); rintro e w4 ⟨v0, rfl, ho, hb⟩; have HO := Aside0.mk ho; have HB_ := Aside0.mk (below_step HB.out hb); have BA0_ := Aside0.mk (blk_below (g := ga0) (o := .cells #[.slice A0_0 l0_0.length c0_0, .slice A0_1 l0_1.length c0_1, .slice A0_2 l0_2.length c0_2, .int .i64 a0_3, .int .i64 a0_4] 53 (0, 0)) BA0.out hb); clear hb ho HX0_0 HX0_1 HX0_2; clear HB BA0; have HB := HB_; have BA0 := BA0_; clear HB_ BA0_; clear hcBA00 hfBA00 hcBA01 hfBA01 hcBA02 hfBA02 hcBA03 hfBA03 hcBA04 hfBA04; have hcBA00 : w4.cell? ⟨ga0, 0, none⟩ = some (.slice A0_0 l0_0.length c0_0) := (blk_cell BA0.out 0).trans rfl; have hfBA00 := blk_frozen BA0.out 0; have hcBA01 : w4.cell? ⟨ga0, 1, none⟩ = some (.slice A0_1 l0_1.length c0_1) := (blk_cell BA0.out 1).trans rfl; have hfBA01 := blk_frozen BA0.out 1; have hcBA02 : w4.cell? ⟨ga0, 2, none⟩ = some (.slice A0_2 l0_2.length c0_2) := (blk_cell BA0.out 2).trans rfl; have hfBA02 := blk_frozen BA0.out 2; have hcBA03 : w4.cell? ⟨ga0, 3, none⟩ = some (.int .i64 a0_3) := (blk_cell BA0.out 3).trans rfl; have hfBA03 := blk_frozen BA0.out 3; have hcBA04 : w4.cell? ⟨ga0, 4, none⟩ = some (.int .i64 a0_4) := (blk_cell BA0.out 4).trans rfl; have hfBA04 := blk_frozen BA0.out 4))
  obtain ⟨As, cs, es⟩ := Kd.S_slice HO.out
  subst es
  have HS := Aside0.mk (Kd.S_mono (ok' := fun q => q < w4.heap.size) (Kd.S_bound HO.out) (fun q hq => hq.2.2.1))
  clear HO
  have HA_ := Aside0.mk HB.out.size
  have HA0 := Aside0.mk (blk_lt BA0.out)
  have N0 := Aside0.mk HB.out.size
  go_wp2_with (first | (go_at_call 26; (with_reducible refine (laws_toHead.calls k A0_0 c0_0 l0_0 A0_1 c0_1 l0_1 A0_2 c0_2 l0_2 a0_3 a0_4 x0_0 x0_1 x0_2 x0_3 x0_4 _ (Kd.C_below HR0_0.out HB.out) HC0_0.out (Kd.C_below HR0_1.out HB.out) HC0_1.out (Kd.C_below HR0_2.out HB.out) HC0_2.out BT0.out).mono ?_); rintro e w5 ⟨v0, v1, v2, rfl, ho0, ho1, ho2, hb⟩; have HX0_0 := Aside0.mk ho0; have HX0_1 := Aside0.mk ho1; have HX0_2 := Aside0.mk ho2; have Z1 := Aside0.mk (hb.size); have HB_ := Aside0.mk (below_step HB.out hb); have BA0_ := Aside0.mk (blk_below (g := ga0) (o := .cells #[.slice A0_0 l0_0.length c0_0, .slice A0_1 l0_1.length c0_1, .slice A0_2 l0_2.length c0_2, .int .i64 a0_3, .int .i64 a0_4] 53 (0, 0)) BA0.out hb); have HS_ := Aside0.mk (Kd.S_below HS.out hb); clear hb ho0 ho1 ho2; clear HB BA0 HS; have HB := HB_; have BA0 := BA0_; have HS := HS_; clear HB_ BA0_ HS_; clear hcBA00 hfBA00 hcBA01 hfBA01 hcBA02 hfBA02 hcBA03 hfBA03 hcBA04 hfBA04; have hcBA00 : w5.cell? ⟨ga0, 0, none⟩ = some (.slice A0_0 l0_0.length c0_0) := (blk_cell BA0.out 0).trans rfl; have hfBA00 := blk_frozen BA0.out 0; have hcBA01 : w5.cell? ⟨ga0, 1, none⟩ = some (.slice A0_1 l0_1.length c0_1) := (blk_cell BA0.out 1).trans rfl; have hfBA01 := blk_frozen BA0.out 1; have hcBA02 : w5.cell? ⟨ga0, 2, none⟩ = some (.slice A0_2 l0_2.length c0_2) := (blk_cell BA0.out 2).trans rfl; have hfBA02 := blk_frozen BA0.out 2; have hcBA03 : w5.cell? ⟨ga0, 3, none⟩ = some (.int .i64 a0_3) := (blk_cell BA0.out 3).trans rfl; have hfBA03 := blk_frozen BA0.out 3; have hcBA04 : w5.cell? ⟨ga0, 4, none⟩ = some (.int .i64 a0_4) := (blk_cell BA0.out 4).trans rfl; have hfBA04 := blk_frozen BA0.out 4; obtain ⟨Ax0_0, cx0_0, ex0_0⟩ := Kd.R_slice HX0_0.out; subst ex0_0; obtain ⟨Ax0_1, cx0_1, ex0_1⟩ := Kd.R_slice HX0_1.out; subst ex0_1; obtain ⟨Ax0_2, cx0_2, ex0_2⟩ := Kd.R_slice HX0_2.out; subst ex0_2; have HY0_0 := Aside0.mk (Kd.R_mono (ok' := (fun q => (w4.heap.size ≤ q ∧ q < w5.heap.size) ∧ True)) (Kd.R_bound HX0_0.out) (fun q hq => ⟨⟨hq.2.1, hq.2.2.1⟩, trivial⟩)); have HY0_1 := Aside0.mk (Kd.R_mono (ok' := (fun q => (w4.heap.size ≤ q ∧ q < w5.heap.size) ∧ some q = (.slice Ax0_1 x0_1.length cx0_1 : Value).ownBlock ∧ some q ≠ (.slice Ax0_2 x0_2.length cx0_2 : Value).ownBlock)) (Kd.R_bound (Kd.R_tight2 rfl HX0_1.out)) (fun q hq => ⟨⟨hq.2.1, hq.2.2.1⟩, hq.1⟩)); have HY0_2 := Aside0.mk (Kd.R_mono (ok' := (fun q => (w4.heap.size ≤ q ∧ q < w5.heap.size) ∧ some q = (.slice Ax0_2 x0_2.length cx0_2 : Value).ownBlock ∧ some q ≠ (.slice Ax0_1 x0_1.length cx0_1 : Value).ownBlock)) (Kd.R_bound (Kd.R_tight2 rfl HX0_2.out)) (fun q hq => ⟨⟨hq.2.1, hq.2.2.1⟩, hq.1⟩)); clear HX0_0 HX0_1 HX0_2) | ((with_reducible refine gate_dst (N := 7) rfl ?_); refine box_event ?hg (N := 7) ?hd (cs := #[.slice none 0 0, .slice none 0 0, .slice none 0 0, .int .i64 0, .int .i64 0]) (t := 27) ?hr ?_; (case hd => rfl); (case hg => rfl); (case hr => first | (go_simp; done) | (go_simp; rfl)); intro gx0 hgx w6 hbox hb; have NX0BA0 := Aside0.mk ((by rw [hgx]; exact Nat.ne_of_lt (blk_lt (g := ga0) (o := .cells #[.slice A0_0 l0_0.length c0_0, .slice A0_1 l0_1.length c0_1, .slice A0_2 l0_2.length c0_2, .int .i64 a0_3, .int .i64 a0_4] 53 (0, 0)) BA0.out)) : ga0 ≠ gx0); have GX0 := Aside0.mk ((by rw [hgx]; exact Nat.le_refl _) : w5.heap.size ≤ gx0); have GY0 := Aside0.mk ((blk_lt hbox) : gx0 < w6.heap.size); have BX0 := Aside0.mk hbox; have HB_ := Aside0.mk (below_step HB.out hb); have BA0_ := Aside0.mk (blk_below (g := ga0) (o := .cells #[.slice A0_0 l0_0.length c0_0, .slice A0_1 l0_1.length c0_1, .slice A0_2 l0_2.length c0_2, .int .i64 a0_3, .int .i64 a0_4] 53 (0, 0)) BA0.out hb); have HS_ := Aside0.mk (Kd.S_below HS.out hb); have HY0_0_ := Aside0.mk (Kd.R_below HY0_0.out hb); have HY0_1_ := Aside0.mk (Kd.R_below HY0_1.out hb); have HY0_2_ := Aside0.mk (Kd.R_below HY0_2.out hb); clear hb hbox hgx; clear HB BA0 HS HY0_0 HY0_1 HY0_2; have HB := HB_; have BA0 := BA0_; have HS := HS_; have HY0_0 := HY0_0_; have HY0_1 := HY0_1_; have HY0_2 := HY0_2_; clear HB_ BA0_ HS_ HY0_0_ HY0_1_ HY0_2_; clear hcBA00 hfBA00 hcBA01 hfBA01 hcBA02 hfBA02 hcBA03 hfBA03 hcBA04 hfBA04; have hcBA00 : w6.cell? ⟨ga0, 0, none⟩ = some (.slice A0_0 l0_0.length c0_0) := (blk_cell BA0.out 0).trans rfl; have hfBA00 := blk_frozen BA0.out 0; have hcBA01 : w6.cell? ⟨ga0, 1, none⟩ = some (.slice A0_1 l0_1.length c0_1) := (blk_cell BA0.out 1).trans rfl; have hfBA01 := blk_frozen BA0.out 1; have hcBA02 : w6.cell? ⟨ga0, 2, none⟩ = some (.slice A0_2 l0_2.length c0_2) := (blk_cell BA0.out 2).trans rfl; have hfBA02 := blk_frozen BA0.out 2; have hcBA03 : w6.cell? ⟨ga0, 3, none⟩ = some (.int .i64 a0_3) := (blk_cell BA0.out 3).trans rfl; have hfBA03 := blk_frozen BA0.out 3; have hcBA04 : w6.cell? ⟨ga0, 4, none⟩ = some (.int .i64 a0_4) := (blk_cell BA0.out 4).trans rfl; have hfBA04 := blk_frozen BA0.out 4; have hcBX00 : w6.cell? ⟨gx0, 0, none⟩ = some (.slice none 0 0) := (blk_cell BX0.out 0).trans rfl; have hfBX00 := blk_frozen BX0.out 0; have hcBX01 : w6.cell? ⟨gx0, 1, none⟩ = some (.slice none 0 0) := (blk_cell BX0.out 1).trans rfl; have hfBX01 := blk_frozen BX0.out 1; have hcBX02 : w6.cell? ⟨gx0, 2, none⟩ = some (.slice none 0 0) := (blk_cell BX0.out 2).trans rfl; have hfBX02 := blk_frozen BX0.out 2; have hcBX03 : w6.cell? ⟨gx0, 3, none⟩ = some (.int .i64 0) := (blk_cell BX0.out 3).trans rfl; have hfBX03 := blk_frozen BX0.out 3; have hcBX04 : w6.cell? ⟨gx0, 4, none⟩ = some (.int .i64 0) := (blk_cell BX0.out 4).trans rfl; have hfBX04 := blk_frozen BX0.out 4; have hn0BA0 := NX0BA0.out; have hm0BA0 := NX0BA0.out.symm))
  have HB_ : Aside0 (Below w.heap.size w (((((w6.setCell ⟨gx0, 0, none⟩ (.slice Ax0_0 x0_0.length cx0_0)).setCell ⟨gx0, 1, none⟩ (.slice Ax0_1 x0_1.length cx0_1)).setCell ⟨gx0, 2, none⟩ (.slice Ax0_2 x0_2.length cx0_2)).setCell ⟨gx0, 3, none⟩ (.int .i64 x0_3)).setCell ⟨gx0, 4, none⟩ (.int .i64 x0_4))) := Aside0.mk (below_set (j := 4) (v := .int .i64 x0_4) (below_set (j := 3) (v := .int .i64 x0_3) (below_set (j := 2) (v := .slice Ax0_2 x0_2.length cx0_2) (below_set (j := 1) (v := .slice Ax0_1 x0_1.length cx0_1) (below_set (j := 0) (v := .slice Ax0_0 x0_0.length cx0_0) HB.out (by have z0_ := HA0.out; have z1_ := Z1.out; have z2_ := GX0.out; have z3_ := GY0.out; have z4_ := N0.out; omega)) (by have z0_ := HA0.out; have z1_ := Z1.out; have z2_ := GX0.out; have z3_ := GY0.out; have z4_ := N0.out; omega)) (by have z0_ := HA0.out; have z1_ := Z1.out; have z2_ := GX0.out; have z3_ := GY0.out; have z4_ := N0.out; omega)) (by have z0_ := HA0.out; have z1_ := Z1.out; have z2_ := GX0.out; have z3_ := GY0.out; have z4_ := N0.out; omega)) (by have z0_ := HA0.out; have z1_ := Z1.out; have z2_ := GX0.out; have z3_ := GY0.out; have z4_ := N0.out; omega))
  have BA0_ := Aside0.mk (show (World.heap (((((w6.setCell ⟨gx0, 0, none⟩ (.slice Ax0_0 x0_0.length cx0_0)).setCell ⟨gx0, 1, none⟩ (.slice Ax0_1 x0_1.length cx0_1)).setCell ⟨gx0, 2, none⟩ (.slice Ax0_2 x0_2.length cx0_2)).setCell ⟨gx0, 3, none⟩ (.int .i64 x0_3)).setCell ⟨gx0, 4, none⟩ (.int .i64 x0_4)))[ga0]? = some (.cells #[.slice A0_0 l0_0.length c0_0, .slice A0_1 l0_1.length c0_1, .slice A0_2 l0_2.length c0_2, .int .i64 a0_3, .int .i64 a0_4] 53 (0, 0)) from (blk_far (blk_far (blk_far (blk_far (blk_far BA0.out NX0BA0.out (.slice Ax0_0 x0_0.length cx0_0)) NX0BA0.out (.slice Ax0_1 x0_1.length cx0_1)) NX0BA0.out (.slice Ax0_2 x0_2.length cx0_2)) NX0BA0.out (.int .i64 x0_3)) NX0BA0.out (.int .i64 x0_4)))
  have BX0_ := Aside0.mk (show (World.heap (((((w6.setCell ⟨gx0, 0, none⟩ (.slice Ax0_0 x0_0.length cx0_0)).setCell ⟨gx0, 1, none⟩ (.slice Ax0_1 x0_1.length cx0_1)).setCell ⟨gx0, 2, none⟩ (.slice Ax0_2 x0_2.length cx0_2)).setCell ⟨gx0, 3, none⟩ (.int .i64 x0_3)).setCell ⟨gx0, 4, none⟩ (.int .i64 x0_4)))[gx0]? = some (.cells #[.slice Ax0_0 x0_0.length cx0_0, .slice Ax0_1 x0_1.length cx0_1, .slice Ax0_2 x0_2.length cx0_2, .int .i64 x0_3, .int .i64 x0_4] 27 (0, 0)) from (blk_put (g := gx0) (cs := #[.slice Ax0_0 x0_0.length cx0_0, .slice Ax0_1 x0_1.length cx0_1, .slice Ax0_2 x0_2.length cx0_2, .int .i64 x0_3, .int .i64 0]) (blk_put (g := gx0) (cs := #[.slice Ax0_0 x0_0.length cx0_0, .slice Ax0_1 x0_1.length cx0_1, .slice Ax0_2 x0_2.length cx0_2, .int .i64 0, .int .i64 0]) (blk_put (g := gx0) (cs := #[.slice Ax0_0 x0_0.length cx0_0, .slice Ax0_1 x0_1.length cx0_1, .slice none 0 0, .int .i64 0, .int .i64 0]) (blk_put (g := gx0) (cs := #[.slice Ax0_0 x0_0.length cx0_0, .slice none 0 0, .slice none 0 0, .int .i64 0, .int .i64 0]) (blk_put (g := gx0) (cs := #[.slice none 0 0, .slice none 0 0, .slice none 0 0, .int .i64 0, .int .i64 0]) BX0.out 0 (.slice Ax0_0 x0_0.length cx0_0) rfl) 1 (.slice Ax0_1 x0_1.length cx0_1) rfl) 2 (.slice Ax0_2 x0_2.length cx0_2) rfl) 3 (.int .i64 x0_3) rfl) 4 (.int .i64 x0_4) rfl))
  have HS_ := Aside0.mk (Kd.S_far (p := ⟨gx0, 4, none⟩) (Kd.S_far (p := ⟨gx0, 3, none⟩) (Kd.S_far (p := ⟨gx0, 2, none⟩) (Kd.S_far (p := ⟨gx0, 1, none⟩) (Kd.S_far (p := ⟨gx0, 0, none⟩) HS.out (fun q hq => Nat.ne_of_lt (Nat.lt_of_lt_of_le hq (show w4.heap.size ≤ gx0 from by have z0_ := HA0.out; have z1_ := Z1.out; have z2_ := GX0.out; have z3_ := GY0.out; have z4_ := N0.out; omega))) (.slice Ax0_0 x0_0.length cx0_0)) (fun q hq => Nat.ne_of_lt (Nat.lt_of_lt_of_le hq (show w4.heap.size ≤ gx0 from by have z0_ := HA0.out; have z1_ := Z1.out; have z2_ := GX0.out; have z3_ := GY0.out; have z4_ := N0.out; omega))) (.slice Ax0_1 x0_1.length cx0_1)) (fun q hq => Nat.ne_of_lt (Nat.lt_of_lt_of_le hq (show w4.heap.size ≤ gx0 from by have z0_ := HA0.out; have z1_ := Z1.out; have z2_ := GX0.out; have z3_ := GY0.out; have z4_ := N0.out; omega))) (.slice Ax0_2 x0_2.length cx0_2)) (fun q hq => Nat.ne_of_lt (Nat.lt_of_lt_of_le hq (show w4.heap.size ≤ gx0 from by have z0_ := HA0.out; have z1_ := Z1.out; have z2_ := GX0.out; have z3_ := GY0.out; have z4_ := N0.out; omega))) (.int .i64 x0_3)) (fun q hq => Nat.ne_of_lt (Nat.lt_of_lt_of_le hq (show w4.heap.size ≤ gx0 from by have z0_ := HA0.out; have z1_ := Z1.out; have z2_ := GX0.out; have z3_ := GY0.out; have z4_ := N0.out; omega))) (.int .i64 x0_4))
  have HY0_0_ := Aside0.mk (Kd.R_far (p := ⟨gx0, 4, none⟩) (Kd.R_far (p := ⟨gx0, 3, none⟩) (Kd.R_far (p := ⟨gx0, 2, none⟩) (Kd.R_far (p := ⟨gx0, 1, none⟩) (Kd.R_far (p := ⟨gx0, 0, none⟩) HY0_0.out (fun q hq => Nat.ne_of_lt (Nat.lt_of_lt_of_le hq.1.2 (show w5.heap.size ≤ gx0 from by have z0_ := HA0.out; have z1_ := Z1.out; have z2_ := GX0.out; have z3_ := GY0.out; have z4_ := N0.out; omega))) (.slice Ax0_0 x0_0.length cx0_0)) (fun q hq => Nat.ne_of_lt (Nat.lt_of_lt_of_le hq.1.2 (show w5.heap.size ≤ gx0 from by have z0_ := HA0.out; have z1_ := Z1.out; have z2_ := GX0.out; have z3_ := GY0.out; have z4_ := N0.out; omega))) (.slice Ax0_1 x0_1.length cx0_1)) (fun q hq => Nat.ne_of_lt (Nat.lt_of_lt_of_le hq.1.2 (show w5.heap.size ≤ gx0 from by have z0_ := HA0.out; have z1_ := Z1.out; have z2_ := GX0.out; have z3_ := GY0.out; have z4_ := N0.out; omega))) (.slice Ax0_2 x0_2.length cx0_2)) (fun q hq => Nat.ne_of_lt (Nat.lt_of_lt_of_le hq.1.2 (show w5.heap.size ≤ gx0 from by have z0_ := HA0.out; have z1_ := Z1.out; have z2_ := GX0.out; have z3_ := GY0.out; have z4_ := N0.out; omega))) (.int .i64 x0_3)) (fun q hq => Nat.ne_of_lt (Nat.lt_of_lt_of_le hq.1.2 (show w5.heap.size ≤ gx0 from by have z0_ := HA0.out; have z1_ := Z1.out; have z2_ := GX0.out; have z3_ := GY0.out; have z4_ := N0.out; omega))) (.int .i64 x0_4))
  have HY0_1_ := Aside0.mk (Kd.R_far (p := ⟨gx0, 4, none⟩) (Kd.R_far (p := ⟨gx0, 3, none⟩) (Kd.R_far (p := ⟨gx0, 2, none⟩) (Kd.R_far (p := ⟨gx0, 1, none⟩) (Kd.R_far (p := ⟨gx0, 0, none⟩) HY0_1.out (fun q hq => Nat.ne_of_lt (Nat.lt_of_lt_of_le hq.1.2 (show w5.heap.size ≤ gx0 from by have z0_ := HA0.out; have z1_ := Z1.out; have z2_ := GX0.out; have z3_ := GY0.out; have z4_ := N0.out; omega))) (.slice Ax0_0 x0_0.length cx0_0)) (fun q hq => Nat.ne_of_lt (Nat.lt_of_lt_of_le hq.1.2 (show w5.heap.size ≤ gx0 from by have z0_ := HA0.out; have z1_ := Z1.out; have z2_ := GX0.out; have z3_ := GY0.out; have z4_ := N0.out; omega))) (.slice Ax0_1 x0_1.length cx0_1)) (fun q hq => Nat.ne_of_lt (Nat.lt_of_lt_of_le hq.1.2 (show w5.heap.size ≤ gx0 from by have z0_ := HA0.out; have z1_ := Z1.out; have z2_ := GX0.out; have z3_ := GY0.out; have z4_ := N0.out; omega))) (.slice Ax0_2 x0_2.length cx0_2)) (fun q hq => Nat.ne_of_lt (Nat.lt_of_lt_of_le hq.1.2 (show w5.heap.size ≤ gx0 from by have z0_ := HA0.out; have z1_ := Z1.out; have z2_ := GX0.out; have z3_ := GY0.out; have z4_ := N0.out; omega))) (.int .i64 x0_3)) (fun q hq => Nat.ne_of_lt (Nat.lt_of_lt_of_le hq.1.2 (show w5.heap.size ≤ gx0 from by have z0_ := HA0.out; have z1_ := Z1.out; have z2_ := GX0.out; have z3_ := GY0.out; have z4_ := N0.out; omega))) (.int .i64 x0_4))
  have HY0_2_ := Aside0.mk (Kd.R_far (p := ⟨gx0, 4, none⟩) (Kd.R_far (p := ⟨gx0, 3, none⟩) (Kd.R_far (p := ⟨gx0, 2, none⟩) (Kd.R_far (p := ⟨gx0, 1, none⟩) (Kd.R_far (p := ⟨gx0, 0, none⟩) HY0_2.out (fun q hq => Nat.ne_of_lt (Nat.lt_of_lt_of_le hq.1.2 (show w5.heap.size ≤ gx0 from by have z0_ := HA0.out; have z1_ := Z1.out; have z2_ := GX0.out; have z3_ := GY0.out; have z4_ := N0.out; omega))) (.slice Ax0_0 x0_0.length cx0_0)) (fun q hq => Nat.ne_of_lt (Nat.lt_of_lt_of_le hq.1.2 (show w5.heap.size ≤ gx0 from by have z0_ := HA0.out; have z1_ := Z1.out; have z2_ := GX0.out; have z3_ := GY0.out; have z4_ := N0.out; omega))) (.slice Ax0_1 x0_1.length cx0_1)) (fun q hq => Nat.ne_of_lt (Nat.lt_of_lt_of_le hq.1.2 (show w5.heap.size ≤ gx0 from by have z0_ := HA0.out; have z1_ := Z1.out; have z2_ := GX0.out; have z3_ := GY0.out; have z4_ := N0.out; omega))) (.slice Ax0_2 x0_2.length cx0_2)) (fun q hq => Nat.ne_of_lt (Nat.lt_of_lt_of_le hq.1.2 (show w5.heap.size ≤ gx0 from by have z0_ := HA0.out; have z1_ := Z1.out; have z2_ := GX0.out; have z3_ := GY0.out; have z4_ := N0.out; omega))) (.int .i64 x0_3)) (fun q hq => Nat.ne_of_lt (Nat.lt_of_lt_of_le hq.1.2 (show w5.heap.size ≤ gx0 from by have z0_ := HA0.out; have z1_ := Z1.out; have z2_ := GX0.out; have z3_ := GY0.out; have z4_ := N0.out; omega))) (.int .i64 x0_4))
  clear HB BA0 BX0 HS HY0_0 HY0_1 HY0_2
  have HB := HB_
  have BA0 := BA0_
  have BX0 := BX0_
  have HS := HS_
  have HY0_0 := HY0_0_
  have HY0_1 := HY0_1_
  have HY0_2 := HY0_2_
  clear HB_ BA0_ BX0_ HS_ HY0_0_ HY0_1_ HY0_2_
  clear hcBA00 hfBA00 hcBA01 hfBA01 hcBA02 hfBA02 hcBA03 hfBA03 hcBA04 hfBA04 hcBX00 hfBX00 hcBX01 hfBX01 hcBX02 hfBX02 hcBX03 hfBX03 hcBX04 hfBX04
  obtain ⟨w7, hw_⟩ : ∃ w_, w_ = (((((w6.setCell ⟨gx0, 0, none⟩ (.slice Ax0_0 x0_0.length cx0_0)).setCell ⟨gx0, 1, none⟩ (.slice Ax0_1 x0_1.length cx0_1)).setCell ⟨gx0, 2, none⟩ (.slice Ax0_2 x0_2.length cx0_2)).setCell ⟨gx0, 3, none⟩ (.int .i64 x0_3)).setCell ⟨gx0, 4, none⟩ (.int .i64 x0_4)) := ⟨_, rfl⟩
  rw [← hw_] at HB BA0 BX0 HS HY0_0 HY0_1 HY0_2 ⊢
  have Z2 := Aside0.mk ((by rw [hw_]; simp) : w6.heap.size ≤ w7.heap.size)
  clear hw_
  have hcBA00 : w7.cell? ⟨ga0, 0, none⟩ = some (.slice A0_0 l0_0.length c0_0) := (blk_cell BA0.out 0).trans rfl
  have hfBA00 := blk_frozen BA0.out 0
  have hcBA01 : w7.cell? ⟨ga0, 1, none⟩ = some (.slice A0_1 l0_1.length c0_1) := (blk_cell BA0.out 1).trans rfl
  have hfBA01 := blk_frozen BA0.out 1
  have hcBA02 : w7.cell? ⟨ga0, 2, none⟩ = some (.slice A0_2 l0_2.length c0_2) := (blk_cell BA0.out 2).trans rfl
  have hfBA02 := blk_frozen BA0.out 2
  have hcBA03 : w7.cell? ⟨ga0, 3, none⟩ = some (.int .i64 a0_3) := (blk_cell BA0.out 3).trans rfl
  have hfBA03 := blk_frozen BA0.out 3
  have hcBA04 : w7.cell? ⟨ga0, 4, none⟩ = some (.int .i64 a0_4) := (blk_cell BA0.out 4).trans rfl
  have hfBA04 := blk_frozen BA0.out 4
  have hcBX00 : w7.cell? ⟨gx0, 0, none⟩ = some (.slice Ax0_0 x0_0.length cx0_0) := (blk_cell BX0.out 0).trans rfl
  have hfBX00 := blk_frozen BX0.out 0
  have hcBX01 : w7.cell? ⟨gx0, 1, none⟩ = some (.slice Ax0_1 x0_1.length cx0_1) := (blk_cell BX0.out 1).trans rfl
  have hfBX01 := blk_frozen BX0.out 1
  have hcBX02 : w7.cell? ⟨gx0, 2, none⟩ = some (.slice Ax0_2 x0_2.length cx0_2) := (blk_cell BX0.out 2).trans rfl
  have hfBX02 := blk_frozen BX0.out 2
  have hcBX03 : w7.cell? ⟨gx0, 3, none⟩ = some (.int .i64 x0_3) := (blk_cell BX0.out 3).trans rfl
  have hfBX03 := blk_frozen BX0.out 3
  have hcBX04 : w7.cell? ⟨gx0, 4, none⟩ = some (.int .i64 x0_4) := (blk_cell BX0.out 4).trans rfl
  have hfBX04 := blk_frozen BX0.out 4
  have NG := Aside0.mk HB.out.size
  have NL0 := Aside0.mk ((by have z0_ := HA0.out; have z1_ := Z1.out; have z2_ := GX0.out; have z3_ := GY0.out; have z4_ := Z2.out; have z5_ := N0.out; omega) : w.heap.size ≤ w4.heap.size)
  go_wp2_with (first | (go_at_call 13; (with_reducible refine (impl_CheapestPlan.calls k Ax0_0 cx0_0 x0_0 Ax0_1 cx0_1 x0_1 Ax0_2 cx0_2 x0_2 x0_3 x0_4 g0 g1 g2 _ (Kd.R_reads' HY0_0.out).2.2 (Kd.R_reads' HY0_0.out).2.1 (Kd.R_reads' HY0_1.out).2.2 (Kd.R_reads' HY0_1.out).2.1 (Kd.R_reads' HY0_2.out).2.2 (Kd.R_reads' HY0_2.out).2.1 BG.out).mono ?_); rintro e w8 ⟨v0, rfl, ho, hb⟩; have HO := Aside0.mk ho; have HB_ := Aside0.mk (below_step HB.out hb); have BA0_ := Aside0.mk (blk_below (g := ga0) (o := .cells #[.slice A0_0 l0_0.length c0_0, .slice A0_1 l0_1.length c0_1, .slice A0_2 l0_2.length c0_2, .int .i64 a0_3, .int .i64 a0_4] 53 (0, 0)) BA0.out hb); have BX0_ := Aside0.mk (blk_below (g := gx0) (o := .cells #[.slice Ax0_0 x0_0.length cx0_0, .slice Ax0_1 x0_1.length cx0_1, .slice Ax0_2 x0_2.length cx0_2, .int .i64 x0_3, .int .i64 x0_4] 27 (0, 0)) BX0.out hb); have HS_ := Aside0.mk (Kd.S_below HS.out hb); have HY0_0_ := Aside0.mk (Kd.R_below HY0_0.out hb); have HY0_1_ := Aside0.mk (Kd.R_below HY0_1.out hb); have HY0_2_ := Aside0.mk (Kd.R_below HY0_2.out hb); clear hb ho; clear HB BA0 BX0 HS HY0_0 HY0_1 HY0_2; have HB := HB_; have BA0 := BA0_; have BX0 := BX0_; have HS := HS_; have HY0_0 := HY0_0_; have HY0_1 := HY0_1_; have HY0_2 := HY0_2_; clear HB_ BA0_ BX0_ HS_ HY0_0_ HY0_1_ HY0_2_; clear hcBA00 hfBA00 hcBA01 hfBA01 hcBA02 hfBA02 hcBA03 hfBA03 hcBA04 hfBA04 hcBX00 hfBX00 hcBX01 hfBX01 hcBX02 hfBX02 hcBX03 hfBX03 hcBX04 hfBX04; have hcBA00 : w8.cell? ⟨ga0, 0, none⟩ = some (.slice A0_0 l0_0.length c0_0) := (blk_cell BA0.out 0).trans rfl; have hfBA00 := blk_frozen BA0.out 0; have hcBA01 : w8.cell? ⟨ga0, 1, none⟩ = some (.slice A0_1 l0_1.length c0_1) := (blk_cell BA0.out 1).trans rfl; have hfBA01 := blk_frozen BA0.out 1; have hcBA02 : w8.cell? ⟨ga0, 2, none⟩ = some (.slice A0_2 l0_2.length c0_2) := (blk_cell BA0.out 2).trans rfl; have hfBA02 := blk_frozen BA0.out 2; have hcBA03 : w8.cell? ⟨ga0, 3, none⟩ = some (.int .i64 a0_3) := (blk_cell BA0.out 3).trans rfl; have hfBA03 := blk_frozen BA0.out 3; have hcBA04 : w8.cell? ⟨ga0, 4, none⟩ = some (.int .i64 a0_4) := (blk_cell BA0.out 4).trans rfl; have hfBA04 := blk_frozen BA0.out 4; have hcBX00 : w8.cell? ⟨gx0, 0, none⟩ = some (.slice Ax0_0 x0_0.length cx0_0) := (blk_cell BX0.out 0).trans rfl; have hfBX00 := blk_frozen BX0.out 0; have hcBX01 : w8.cell? ⟨gx0, 1, none⟩ = some (.slice Ax0_1 x0_1.length cx0_1) := (blk_cell BX0.out 1).trans rfl; have hfBX01 := blk_frozen BX0.out 1; have hcBX02 : w8.cell? ⟨gx0, 2, none⟩ = some (.slice Ax0_2 x0_2.length cx0_2) := (blk_cell BX0.out 2).trans rfl; have hfBX02 := blk_frozen BX0.out 2; have hcBX03 : w8.cell? ⟨gx0, 3, none⟩ = some (.int .i64 x0_3) := (blk_cell BX0.out 3).trans rfl; have hfBX03 := blk_frozen BX0.out 3; have hcBX04 : w8.cell? ⟨gx0, 4, none⟩ = some (.int .i64 x0_4) := (blk_cell BX0.out 4).trans rfl; have hfBX04 := blk_frozen BX0.out 4))
  obtain ⟨Ag, cg, eg⟩ := Kd.S_slice HO.out
  subst eg
  have HG := Aside0.mk (Kd.S_mono (ok' := fun q => w7.heap.size ≤ q) (Kd.S_bound HO.out) (fun q hq => hq.2.1))
  clear HO
  go_wp2_with (first | (go_at_call 31; (with_reducible refine (laws_eqStopS.calls k Ag cg g0 As cs s0 true _ (Kd.S_reads' HG.out).2.2 (Kd.S_reads' HG.out).2.1 (Kd.S_reads' HS.out).2.2 (Kd.S_reads' HS.out).2.1 BE.out).mono ?_); rintro e w9 ⟨rfl, hb⟩; have HB_ := Aside0.mk (below_step HB.out hb); have BA0_ := Aside0.mk (blk_below (g := ga0) (o := .cells #[.slice A0_0 l0_0.length c0_0, .slice A0_1 l0_1.length c0_1, .slice A0_2 l0_2.length c0_2, .int .i64 a0_3, .int .i64 a0_4] 53 (0, 0)) BA0.out hb); have BX0_ := Aside0.mk (blk_below (g := gx0) (o := .cells #[.slice Ax0_0 x0_0.length cx0_0, .slice Ax0_1 x0_1.length cx0_1, .slice Ax0_2 x0_2.length cx0_2, .int .i64 x0_3, .int .i64 x0_4] 27 (0, 0)) BX0.out hb); have HS_ := Aside0.mk (Kd.S_below HS.out hb); have HY0_0_ := Aside0.mk (Kd.R_below HY0_0.out hb); have HY0_1_ := Aside0.mk (Kd.R_below HY0_1.out hb); have HY0_2_ := Aside0.mk (Kd.R_below HY0_2.out hb); have HG_ := Aside0.mk (Kd.S_below HG.out hb); clear hb; clear HB BA0 BX0 HS HY0_0 HY0_1 HY0_2 HG; have HB := HB_; have BA0 := BA0_; have BX0 := BX0_; have HS := HS_; have HY0_0 := HY0_0_; have HY0_1 := HY0_1_; have HY0_2 := HY0_2_; have HG := HG_; clear HB_ BA0_ BX0_ HS_ HY0_0_ HY0_1_ HY0_2_ HG_; clear hcBA00 hfBA00 hcBA01 hfBA01 hcBA02 hfBA02 hcBA03 hfBA03 hcBA04 hfBA04 hcBX00 hfBX00 hcBX01 hfBX01 hcBX02 hfBX02 hcBX03 hfBX03 hcBX04 hfBX04; have hcBA00 : w9.cell? ⟨ga0, 0, none⟩ = some (.slice A0_0 l0_0.length c0_0) := (blk_cell BA0.out 0).trans rfl; have hfBA00 := blk_frozen BA0.out 0; have hcBA01 : w9.cell? ⟨ga0, 1, none⟩ = some (.slice A0_1 l0_1.length c0_1) := (blk_cell BA0.out 1).trans rfl; have hfBA01 := blk_frozen BA0.out 1; have hcBA02 : w9.cell? ⟨ga0, 2, none⟩ = some (.slice A0_2 l0_2.length c0_2) := (blk_cell BA0.out 2).trans rfl; have hfBA02 := blk_frozen BA0.out 2; have hcBA03 : w9.cell? ⟨ga0, 3, none⟩ = some (.int .i64 a0_3) := (blk_cell BA0.out 3).trans rfl; have hfBA03 := blk_frozen BA0.out 3; have hcBA04 : w9.cell? ⟨ga0, 4, none⟩ = some (.int .i64 a0_4) := (blk_cell BA0.out 4).trans rfl; have hfBA04 := blk_frozen BA0.out 4; have hcBX00 : w9.cell? ⟨gx0, 0, none⟩ = some (.slice Ax0_0 x0_0.length cx0_0) := (blk_cell BX0.out 0).trans rfl; have hfBX00 := blk_frozen BX0.out 0; have hcBX01 : w9.cell? ⟨gx0, 1, none⟩ = some (.slice Ax0_1 x0_1.length cx0_1) := (blk_cell BX0.out 1).trans rfl; have hfBX01 := blk_frozen BX0.out 1; have hcBX02 : w9.cell? ⟨gx0, 2, none⟩ = some (.slice Ax0_2 x0_2.length cx0_2) := (blk_cell BX0.out 2).trans rfl; have hfBX02 := blk_frozen BX0.out 2; have hcBX03 : w9.cell? ⟨gx0, 3, none⟩ = some (.int .i64 x0_3) := (blk_cell BX0.out 3).trans rfl; have hfBX03 := blk_frozen BX0.out 3; have hcBX04 : w9.cell? ⟨gx0, 4, none⟩ = some (.int .i64 x0_4) := (blk_cell BX0.out 4).trans rfl; have hfBX04 := blk_frozen BX0.out 4))
  try go_wp2
  have HS_ := Aside0.mk (Kd.S_drew HS.out)
  have HY0_0_ := Aside0.mk (Kd.R_drew HY0_0.out)
  have HY0_1_ := Aside0.mk (Kd.R_drew HY0_1.out)
  have HY0_2_ := Aside0.mk (Kd.R_drew HY0_2.out)
  have HG_ := Aside0.mk (Kd.S_drew HG.out)
  have BA0_ := Aside0.mk (blk_drew BA0.out)
  have BX0_ := Aside0.mk (blk_drew BX0.out)
  have HB_ := Aside0.mk (below_drew1 HB.out)
  clear HS HY0_0 HY0_1 HY0_2 HG BA0 BX0 HB
  have HS := HS_
  have HY0_0 := HY0_0_
  have HY0_1 := HY0_1_
  have HY0_2 := HY0_2_
  have HG := HG_
  have BA0 := BA0_
  have BX0 := BX0_
  have HB := HB_
  clear HS_ HY0_0_ HY0_1_ HY0_2_ HG_ BA0_ BX0_ HB_
  clear hcBA00 hfBA00 hcBA01 hfBA01 hcBA02 hfBA02 hcBA03 hfBA03 hcBA04 hfBA04 hcBX00 hfBX00 hcBX01 hfBX01 hcBX02 hfBX02 hcBX03 hfBX03 hcBX04 hfBX04
  refine start_ (n := 5) (S := fun w' => w'.cell? ⟨gx0, 0, none⟩ = some (.slice Ax0_0 x0_0.length cx0_0) ∧ w'.cell? ⟨gx0, 1, none⟩ = some (.slice Ax0_1 x0_1.length cx0_1) ∧ w'.cell? ⟨gx0, 2, none⟩ = some (.slice Ax0_2 x0_2.length cx0_2) ∧ w'.cell? ⟨gx0, 3, none⟩ = some (.int .i64 x0_3) ∧ w'.cell? ⟨gx0, 4, none⟩ = some (.int .i64 x0_4) ∧ w'.cell? ⟨ga0, 0, none⟩ = some (.slice A0_0 l0_0.length c0_0) ∧ w'.cell? ⟨ga0, 1, none⟩ = some (.slice A0_1 l0_1.length c0_1) ∧ w'.cell? ⟨ga0, 2, none⟩ = some (.slice A0_2 l0_2.length c0_2) ∧ w'.cell? ⟨ga0, 3, none⟩ = some (.int .i64 a0_3) ∧ w'.cell? ⟨ga0, 4, none⟩ = some (.int .i64 a0_4)) (ds := []) #[false, false, false, false, false] (by kernel_rfl) rfl rfl ⟨(blk_cell BX0.out 0).trans rfl, (blk_cell BX0.out 1).trans rfl, (blk_cell BX0.out 2).trans rfl, (blk_cell BX0.out 3).trans rfl, (blk_cell BX0.out 4).trans rfl, (blk_cell BA0.out 0).trans rfl, (blk_cell BA0.out 1).trans rfl, (blk_cell BA0.out 2).trans rfl, (blk_cell BA0.out 3).trans rfl, (blk_cell BA0.out 4).trans rfl⟩ (fun hHeld => ?_)
  generalize w9.drew = w10 at HS HY0_0 HY0_1 HY0_2 HG BA0 BX0 HB hHeld ⊢
  refine take_ (i := 0) (N := some 51) (v := ?_) (a' := ?_) #[true, false, false, false, false] rfl rfl (by kernel_rfl) (fun _ _ _ h => h) (Or.inl ⟨by rfl, ?_⟩) hHeld ?_ ?_
  rotate_left
  ·rintro w' ⟨s0_, s1_, s2_, s3_, s4_, s5_, s6_, s7_, s8_, s9_⟩
   go_simp
   with_reducible rfl
  rotate_left
  ·simp only [Act.put, qa_, qz_, qs_, i64_w, i32_w]
   rfl
  refine take_ (i := 1) (N := some 52) (v := ?_) (a' := ?_) #[true, true, false, false, false] rfl rfl (by kernel_rfl) (fun _ _ _ h => h) (Or.inl ⟨by rfl, ?_⟩) hHeld ?_ ?_
  rotate_left
  ·rintro w' ⟨s0_, s1_, s2_, s3_, s4_, s5_, s6_, s7_, s8_, s9_⟩
   go_simp
   with_reducible rfl
  rotate_left
  ·simp only [Act.put, qa_, qz_, qs_, i64_w, i32_w]
   rfl
  refine one_ (i := 2) (N := some 53) #[true, true, true, false, false] rfl rfl (by kernel_rfl) (by decide) (fun K hK => ?_)
  refine goes_ Try.func26 (by kernel_rfl) rfl #[.agg #[.slice A0_0 l0_0.length c0_0, .slice A0_1 l0_1.length c0_1, .slice A0_2 l0_2.length c0_2, .int .i64 a0_3, .int .i64 a0_4]] (by rfl) rfl rfl (by (try simp only [List.map_toArray, List.map_cons, List.map_nil]); first | done | rfl) ?_
  (with_reducible refine (laws_toHead.calls k A0_0 c0_0 l0_0 A0_1 c0_1 l0_1 A0_2 c0_2 l0_2 a0_3 a0_4 x0_0 x0_1 x0_2 x0_3 x0_4 _ (Kd.C_below HR0_0.out HB.out) HC0_0.out (Kd.C_below HR0_1.out HB.out) HC0_1.out (Kd.C_below HR0_2.out HB.out) HC0_2.out BT0.out).mono ?_)
  rintro e w11 ⟨v0, v1, v2, rfl, ho0, ho1, ho2, hb⟩
  refine ⟨_, rfl, ?_⟩
  have HT0_0 := Aside0.mk ho0
  have HT0_1 := Aside0.mk ho1
  have HT0_2 := Aside0.mk ho2
  have HB_ := Aside0.mk (below_step HB.out hb)
  have BA0_ := Aside0.mk (blk_below (g := ga0) (o := .cells #[.slice A0_0 l0_0.length c0_0, .slice A0_1 l0_1.length c0_1, .slice A0_2 l0_2.length c0_2, .int .i64 a0_3, .int .i64 a0_4] 53 (0, 0)) BA0.out hb)
  have BX0_ := Aside0.mk (blk_below (g := gx0) (o := .cells #[.slice Ax0_0 x0_0.length cx0_0, .slice Ax0_1 x0_1.length cx0_1, .slice Ax0_2 x0_2.length cx0_2, .int .i64 x0_3, .int .i64 x0_4] 27 (0, 0)) BX0.out hb)
  have HS_ := Aside0.mk (Kd.S_below HS.out hb)
  have HY0_0_ := Aside0.mk (Kd.R_below HY0_0.out hb)
  have HY0_1_ := Aside0.mk (Kd.R_below HY0_1.out hb)
  have HY0_2_ := Aside0.mk (Kd.R_below HY0_2.out hb)
  have HG_ := Aside0.mk (Kd.S_below HG.out hb)
  clear hb ho0 ho1 ho2
  clear HB BA0 BX0 HS HY0_0 HY0_1 HY0_2 HG
  have HB := HB_
  have BA0 := BA0_
  have BX0 := BX0_
  have HS := HS_
  have HY0_0 := HY0_0_
  have HY0_1 := HY0_1_
  have HY0_2 := HY0_2_
  have HG := HG_
  clear HB_ BA0_ BX0_ HS_ HY0_0_ HY0_1_ HY0_2_ HG_
  have hcBA00 : w11.cell? ⟨ga0, 0, none⟩ = some (.slice A0_0 l0_0.length c0_0) := (blk_cell BA0.out 0).trans rfl
  have hfBA00 := blk_frozen BA0.out 0
  have hcBA01 : w11.cell? ⟨ga0, 1, none⟩ = some (.slice A0_1 l0_1.length c0_1) := (blk_cell BA0.out 1).trans rfl
  have hfBA01 := blk_frozen BA0.out 1
  have hcBA02 : w11.cell? ⟨ga0, 2, none⟩ = some (.slice A0_2 l0_2.length c0_2) := (blk_cell BA0.out 2).trans rfl
  have hfBA02 := blk_frozen BA0.out 2
  have hcBA03 : w11.cell? ⟨ga0, 3, none⟩ = some (.int .i64 a0_3) := (blk_cell BA0.out 3).trans rfl
  have hfBA03 := blk_frozen BA0.out 3
  have hcBA04 : w11.cell? ⟨ga0, 4, none⟩ = some (.int .i64 a0_4) := (blk_cell BA0.out 4).trans rfl
  have hfBA04 := blk_frozen BA0.out 4
  have hcBX00 : w11.cell? ⟨gx0, 0, none⟩ = some (.slice Ax0_0 x0_0.length cx0_0) := (blk_cell BX0.out 0).trans rfl
  have hfBX00 := blk_frozen BX0.out 0
  have hcBX01 : w11.cell? ⟨gx0, 1, none⟩ = some (.slice Ax0_1 x0_1.length cx0_1) := (blk_cell BX0.out 1).trans rfl
  have hfBX01 := blk_frozen BX0.out 1
  have hcBX02 : w11.cell? ⟨gx0, 2, none⟩ = some (.slice Ax0_2 x0_2.length cx0_2) := (blk_cell BX0.out 2).trans rfl
  have hfBX02 := blk_frozen BX0.out 2
  have hcBX03 : w11.cell? ⟨gx0, 3, none⟩ = some (.int .i64 x0_3) := (blk_cell BX0.out 3).trans rfl
  have hfBX03 := blk_frozen BX0.out 3
  have hcBX04 : w11.cell? ⟨gx0, 4, none⟩ = some (.int .i64 x0_4) := (blk_cell BX0.out 4).trans rfl
  have hfBX04 := blk_frozen BX0.out 4
  clear hcBA00 hfBA00 hcBA01 hfBA01 hcBA02 hfBA02 hcBA03 hfBA03 hcBA04 hfBA04 hcBX00 hfBX00 hcBX01 hfBX01 hcBX02 hfBX02 hcBX03 hfBX03 hcBX04 hfBX04
  obtain ⟨Ar0_0, cr0_0, er0_0⟩ := Kd.R_slice HT0_0.out
  subst er0_0
  obtain ⟨Ar0_1, cr0_1, er0_1⟩ := Kd.R_slice HT0_1.out
  subst er0_1
  obtain ⟨Ar0_2, cr0_2, er0_2⟩ := Kd.R_slice HT0_2.out
  subst er0_2
  refine hK.out _ _ ⟨(blk_cell BX0.out 0).trans rfl, (blk_cell BX0.out 1).trans rfl, (blk_cell BX0.out 2).trans rfl, (blk_cell BX0.out 3).trans rfl, (blk_cell BX0.out 4).trans rfl, (blk_cell BA0.out 0).trans rfl, (blk_cell BA0.out 1).trans rfl, (blk_cell BA0.out 2).trans rfl, (blk_cell BA0.out 3).trans rfl, (blk_cell BA0.out 4).trans rfl⟩ (fun hHeld => ?_)
  clear hK K
  refine norm_ (a' := ?_) ?_ ?_
  rotate_left
  ·show Act.put _ (some 53) _ = _
   simp only [Act.put, qa_, qz_, qs_, i64_w, i32_w]
   rfl
  refine one_ (i := 3) (N := some 54) #[true, true, true, true, false] rfl rfl (by kernel_rfl) (by decide) (fun K hK => ?_)
  refine goes_ Try.func30 (by kernel_rfl) rfl #[.agg #[.slice Ax0_0 x0_0.length cx0_0, .slice Ax0_1 x0_1.length cx0_1, .slice Ax0_2 x0_2.length cx0_2, .int .i64 x0_3, .int .i64 x0_4], .agg #[.slice Ar0_0 x0_0.length cr0_0, .slice Ar0_1 x0_1.length cr0_1, .slice Ar0_2 x0_2.length cr0_2, .int .i64 x0_3, .int .i64 x0_4]] (by rfl) rfl rfl (by (try simp only [List.map_toArray, List.map_cons, List.map_nil]); first | done | rfl) ?_
  (with_reducible refine (laws_eqHead.calls k Ax0_0 cx0_0 x0_0 Ax0_1 cx0_1 x0_1 Ax0_2 cx0_2 x0_2 x0_3 x0_4 Ar0_0 cr0_0 x0_0 Ar0_1 cr0_1 x0_1 Ar0_2 cr0_2 x0_2 x0_3 x0_4 true _ (Kd.R_reads' HY0_0.out).2.2 (Kd.R_reads' HY0_0.out).2.1 (Kd.R_reads' HY0_1.out).2.2 (Kd.R_reads' HY0_1.out).2.1 (Kd.R_reads' HY0_2.out).2.2 (Kd.R_reads' HY0_2.out).2.1 (Kd.R_reads' HT0_0.out).2.2 (Kd.R_reads' HT0_0.out).2.1 (Kd.R_reads' HT0_1.out).2.2 (Kd.R_reads' HT0_1.out).2.1 (Kd.R_reads' HT0_2.out).2.2 (Kd.R_reads' HT0_2.out).2.1 BQ0.out).mono ?_)
  rintro e w12 ⟨rfl, hb⟩
  refine ⟨_, rfl, ?_⟩
  have HB_ := Aside0.mk (below_step HB.out hb)
  have BA0_ := Aside0.mk (blk_below (g := ga0) (o := .cells #[.slice A0_0 l0_0.length c0_0, .slice A0_1 l0_1.length c0_1, .slice A0_2 l0_2.length c0_2, .int .i64 a0_3, .int .i64 a0_4] 53 (0, 0)) BA0.out hb)
  have BX0_ := Aside0.mk (blk_below (g := gx0) (o := .cells #[.slice Ax0_0 x0_0.length cx0_0, .slice Ax0_1 x0_1.length cx0_1, .slice Ax0_2 x0_2.length cx0_2, .int .i64 x0_3, .int .i64 x0_4] 27 (0, 0)) BX0.out hb)
  have HS_ := Aside0.mk (Kd.S_below HS.out hb)
  have HY0_0_ := Aside0.mk (Kd.R_below HY0_0.out hb)
  have HY0_1_ := Aside0.mk (Kd.R_below HY0_1.out hb)
  have HY0_2_ := Aside0.mk (Kd.R_below HY0_2.out hb)
  have HG_ := Aside0.mk (Kd.S_below HG.out hb)
  clear hb HT0_0 HT0_1 HT0_2
  clear HB BA0 BX0 HS HY0_0 HY0_1 HY0_2 HG
  have HB := HB_
  have BA0 := BA0_
  have BX0 := BX0_
  have HS := HS_
  have HY0_0 := HY0_0_
  have HY0_1 := HY0_1_
  have HY0_2 := HY0_2_
  have HG := HG_
  clear HB_ BA0_ BX0_ HS_ HY0_0_ HY0_1_ HY0_2_ HG_
  have hcBA00 : w12.cell? ⟨ga0, 0, none⟩ = some (.slice A0_0 l0_0.length c0_0) := (blk_cell BA0.out 0).trans rfl
  have hfBA00 := blk_frozen BA0.out 0
  have hcBA01 : w12.cell? ⟨ga0, 1, none⟩ = some (.slice A0_1 l0_1.length c0_1) := (blk_cell BA0.out 1).trans rfl
  have hfBA01 := blk_frozen BA0.out 1
  have hcBA02 : w12.cell? ⟨ga0, 2, none⟩ = some (.slice A0_2 l0_2.length c0_2) := (blk_cell BA0.out 2).trans rfl
  have hfBA02 := blk_frozen BA0.out 2
  have hcBA03 : w12.cell? ⟨ga0, 3, none⟩ = some (.int .i64 a0_3) := (blk_cell BA0.out 3).trans rfl
  have hfBA03 := blk_frozen BA0.out 3
  have hcBA04 : w12.cell? ⟨ga0, 4, none⟩ = some (.int .i64 a0_4) := (blk_cell BA0.out 4).trans rfl
  have hfBA04 := blk_frozen BA0.out 4
  have hcBX00 : w12.cell? ⟨gx0, 0, none⟩ = some (.slice Ax0_0 x0_0.length cx0_0) := (blk_cell BX0.out 0).trans rfl
  have hfBX00 := blk_frozen BX0.out 0
  have hcBX01 : w12.cell? ⟨gx0, 1, none⟩ = some (.slice Ax0_1 x0_1.length cx0_1) := (blk_cell BX0.out 1).trans rfl
  have hfBX01 := blk_frozen BX0.out 1
  have hcBX02 : w12.cell? ⟨gx0, 2, none⟩ = some (.slice Ax0_2 x0_2.length cx0_2) := (blk_cell BX0.out 2).trans rfl
  have hfBX02 := blk_frozen BX0.out 2
  have hcBX03 : w12.cell? ⟨gx0, 3, none⟩ = some (.int .i64 x0_3) := (blk_cell BX0.out 3).trans rfl
  have hfBX03 := blk_frozen BX0.out 3
  have hcBX04 : w12.cell? ⟨gx0, 4, none⟩ = some (.int .i64 x0_4) := (blk_cell BX0.out 4).trans rfl
  have hfBX04 := blk_frozen BX0.out 4
  clear hcBA00 hfBA00 hcBA01 hfBA01 hcBA02 hfBA02 hcBA03 hfBA03 hcBA04 hfBA04 hcBX00 hfBX00 hcBX01 hfBX01 hcBX02 hfBX02 hcBX03 hfBX03 hcBX04 hfBX04
  refine hK.out _ _ ⟨(blk_cell BX0.out 0).trans rfl, (blk_cell BX0.out 1).trans rfl, (blk_cell BX0.out 2).trans rfl, (blk_cell BX0.out 3).trans rfl, (blk_cell BX0.out 4).trans rfl, (blk_cell BA0.out 0).trans rfl, (blk_cell BA0.out 1).trans rfl, (blk_cell BA0.out 2).trans rfl, (blk_cell BA0.out 3).trans rfl, (blk_cell BA0.out 4).trans rfl⟩ (fun hHeld => ?_)
  clear hK K
  refine norm_ (a' := ?_) ?_ ?_
  rotate_left
  ·show Act.put _ (some 54) _ = _
   simp only [Act.put, qa_, qz_, qs_, i64_w, i32_w]
   rfl
  refine pure_ (i := 4) (N := some 55) (v := ?_) (a' := ?_) #[true, true, true, true, true] rfl rfl (by kernel_rfl) (fun _ _ _ h => h) (Or.inl ⟨by rfl, ?_⟩) ?_ ?_
  rotate_left
  ·intro w'
   go_simp
   with_reducible rfl
  rotate_left
  ·simp only [Act.put, qa_, qz_, qs_, i64_w, i32_w]
   rfl
  refine done_ (by kernel_rfl) ?_
  have hcBA00 : w12.cell? ⟨ga0, 0, none⟩ = some (.slice A0_0 l0_0.length c0_0) := (blk_cell BA0.out 0).trans rfl
  have hfBA00 := blk_frozen BA0.out 0
  have hcBA01 : w12.cell? ⟨ga0, 1, none⟩ = some (.slice A0_1 l0_1.length c0_1) := (blk_cell BA0.out 1).trans rfl
  have hfBA01 := blk_frozen BA0.out 1
  have hcBA02 : w12.cell? ⟨ga0, 2, none⟩ = some (.slice A0_2 l0_2.length c0_2) := (blk_cell BA0.out 2).trans rfl
  have hfBA02 := blk_frozen BA0.out 2
  have hcBA03 : w12.cell? ⟨ga0, 3, none⟩ = some (.int .i64 a0_3) := (blk_cell BA0.out 3).trans rfl
  have hfBA03 := blk_frozen BA0.out 3
  have hcBA04 : w12.cell? ⟨ga0, 4, none⟩ = some (.int .i64 a0_4) := (blk_cell BA0.out 4).trans rfl
  have hfBA04 := blk_frozen BA0.out 4
  have hcBX00 : w12.cell? ⟨gx0, 0, none⟩ = some (.slice Ax0_0 x0_0.length cx0_0) := (blk_cell BX0.out 0).trans rfl
  have hfBX00 := blk_frozen BX0.out 0
  have hcBX01 : w12.cell? ⟨gx0, 1, none⟩ = some (.slice Ax0_1 x0_1.length cx0_1) := (blk_cell BX0.out 1).trans rfl
  have hfBX01 := blk_frozen BX0.out 1
  have hcBX02 : w12.cell? ⟨gx0, 2, none⟩ = some (.slice Ax0_2 x0_2.length cx0_2) := (blk_cell BX0.out 2).trans rfl
  have hfBX02 := blk_frozen BX0.out 2
  have hcBX03 : w12.cell? ⟨gx0, 3, none⟩ = some (.int .i64 x0_3) := (blk_cell BX0.out 3).trans rfl
  have hfBX03 := blk_frozen BX0.out 3
  have hcBX04 : w12.cell? ⟨gx0, 4, none⟩ = some (.int .i64 x0_4) := (blk_cell BX0.out 4).trans rfl
  have hfBX04 := blk_frozen BX0.out 4
  go_wp2_with (first | (go_at_call 32; (with_reducible refine (laws_markHead.calls k (fun q => (w4.heap.size ≤ q ∧ q < w5.heap.size) ∧ True) _ x0_0 (fun q => (w4.heap.size ≤ q ∧ q < w5.heap.size) ∧ some q = (.slice Ax0_1 x0_1.length cx0_1 : Value).ownBlock ∧ some q ≠ (.slice Ax0_2 x0_2.length cx0_2 : Value).ownBlock) _ x0_1 (fun q => (w4.heap.size ≤ q ∧ q < w5.heap.size) ∧ some q = (.slice Ax0_2 x0_2.length cx0_2 : Value).ownBlock ∧ some q ≠ (.slice Ax0_1 x0_1.length cx0_1 : Value).ownBlock) _ x0_2 x0_3 x0_4 1 q0 m0_0 m0_1 m0_2 w _ HB.out (Kd.R_lower HY0_0.out NL0.out) (Kd.R_lower HY0_1.out NL0.out) (fun q h1 h2 => absurd h2.2.1 h1.2.2) (Kd.R_lower HY0_2.out NL0.out) (fun q h1 h2 => absurd h2.2.1 h1.2.2) BM0.out).mono ?_); rintro e w13 ⟨rfl, hy0, hy1, hy2, hb, hk⟩; have HB_ := Aside0.mk hb; have BA0_ := Aside0.mk ((hk.2 ga0 (blk_lt BA0.out) (fun hs => by have i_ : w4.heap.size ≤ _ ∧ _ < w5.heap.size := hs.elim (fun h => h.1) (fun h => h.elim (fun h => h.1) (fun h => h.1)); have z0_ := HA0.out; have z1_ := Z1.out; have z2_ := GX0.out; have z3_ := GY0.out; have z4_ := Z2.out; omega)).trans BA0.out); have HS_ := Aside0.mk (Kd.S_step HS.out (fun q hq hlt => hk.2 q hlt (fun hs => by have i_ : w4.heap.size ≤ _ ∧ _ < w5.heap.size := hs.elim (fun h => h.1) (fun h => h.elim (fun h => h.1) (fun h => h.1)); have y_ : q < w4.heap.size := hq; have z0_ := HA0.out; have z1_ := Z1.out; have z2_ := GX0.out; have z3_ := GY0.out; have z4_ := Z2.out; omega))); have HG_ := Aside0.mk (Kd.S_step HG.out (fun q hq hlt => hk.2 q hlt (fun hs => by have i_ : w4.heap.size ≤ _ ∧ _ < w5.heap.size := hs.elim (fun h => h.1) (fun h => h.elim (fun h => h.1) (fun h => h.1)); have y_ : w7.heap.size ≤ q := hq; have z0_ := HA0.out; have z1_ := Z1.out; have z2_ := GX0.out; have z3_ := GY0.out; have z4_ := Z2.out; omega))); clear hy0 hy1 hy2 hb hk HY0_0 HY0_1 HY0_2 BX0; clear HB BA0 HS HG; have HB := HB_; have BA0 := BA0_; have HS := HS_; have HG := HG_; clear HB_ BA0_ HS_ HG_; clear hcBA00 hfBA00 hcBA01 hfBA01 hcBA02 hfBA02 hcBA03 hfBA03 hcBA04 hfBA04 hcBX00 hfBX00 hcBX01 hfBX01 hcBX02 hfBX02 hcBX03 hfBX03 hcBX04 hfBX04; have hcBA00 : w13.cell? ⟨ga0, 0, none⟩ = some (.slice A0_0 l0_0.length c0_0) := (blk_cell BA0.out 0).trans rfl; have hfBA00 := blk_frozen BA0.out 0; have hcBA01 : w13.cell? ⟨ga0, 1, none⟩ = some (.slice A0_1 l0_1.length c0_1) := (blk_cell BA0.out 1).trans rfl; have hfBA01 := blk_frozen BA0.out 1; have hcBA02 : w13.cell? ⟨ga0, 2, none⟩ = some (.slice A0_2 l0_2.length c0_2) := (blk_cell BA0.out 2).trans rfl; have hfBA02 := blk_frozen BA0.out 2; have hcBA03 : w13.cell? ⟨ga0, 3, none⟩ = some (.int .i64 a0_3) := (blk_cell BA0.out 3).trans rfl; have hfBA03 := blk_frozen BA0.out 3; have hcBA04 : w13.cell? ⟨ga0, 4, none⟩ = some (.int .i64 a0_4) := (blk_cell BA0.out 4).trans rfl; have hfBA04 := blk_frozen BA0.out 4))
  go_wp2_with (first | (go_at_call 31; (with_reducible refine (laws_eqStopS.calls k Ag cg g0 As cs s0 true _ (Kd.S_reads' HG.out).2.2 (Kd.S_reads' HG.out).2.1 (Kd.S_reads' HS.out).2.2 (Kd.S_reads' HS.out).2.1 BE.out).mono ?_); rintro e w14 ⟨rfl, hb⟩; have HB_ := Aside0.mk (below_step HB.out hb); have BA0_ := Aside0.mk (blk_below (g := ga0) (o := .cells #[.slice A0_0 l0_0.length c0_0, .slice A0_1 l0_1.length c0_1, .slice A0_2 l0_2.length c0_2, .int .i64 a0_3, .int .i64 a0_4] 53 (0, 0)) BA0.out hb); have HS_ := Aside0.mk (Kd.S_below HS.out hb); have HG_ := Aside0.mk (Kd.S_below HG.out hb); clear hb; clear HB BA0 HS HG; have HB := HB_; have BA0 := BA0_; have HS := HS_; have HG := HG_; clear HB_ BA0_ HS_ HG_; clear hcBA00 hfBA00 hcBA01 hfBA01 hcBA02 hfBA02 hcBA03 hfBA03 hcBA04 hfBA04; have hcBA00 : w14.cell? ⟨ga0, 0, none⟩ = some (.slice A0_0 l0_0.length c0_0) := (blk_cell BA0.out 0).trans rfl; have hfBA00 := blk_frozen BA0.out 0; have hcBA01 : w14.cell? ⟨ga0, 1, none⟩ = some (.slice A0_1 l0_1.length c0_1) := (blk_cell BA0.out 1).trans rfl; have hfBA01 := blk_frozen BA0.out 1; have hcBA02 : w14.cell? ⟨ga0, 2, none⟩ = some (.slice A0_2 l0_2.length c0_2) := (blk_cell BA0.out 2).trans rfl; have hfBA02 := blk_frozen BA0.out 2; have hcBA03 : w14.cell? ⟨ga0, 3, none⟩ = some (.int .i64 a0_3) := (blk_cell BA0.out 3).trans rfl; have hfBA03 := blk_frozen BA0.out 3; have hcBA04 : w14.cell? ⟨ga0, 4, none⟩ = some (.int .i64 a0_4) := (blk_cell BA0.out 4).trans rfl; have hfBA04 := blk_frozen BA0.out 4))
  have NH := Aside0.mk HB.out.size
  go_wp2_with (first | (go_at_call 33; (with_reducible refine (laws_markStopS.calls k (fun q => w7.heap.size ≤ q) _ g0 1 th lk w _ HB.out (Kd.S_lower HG.out NG.out) BK.out).mono ?_); rintro e w15 ⟨rfl, hy, hb, hk⟩; have HB_ := Aside0.mk hb; have BA0_ := Aside0.mk ((hk.2 ga0 (blk_lt BA0.out) (fun hs => by have i_ : w7.heap.size ≤ _ := hs; have z0_ := HA0.out; have z1_ := Z1.out; have z2_ := GX0.out; have z3_ := GY0.out; have z4_ := Z2.out; omega)).trans BA0.out); have HS_ := Aside0.mk (Kd.S_step HS.out (fun q hq hlt => hk.2 q hlt (fun hs => by have y_ : q < w4.heap.size := hq; have i_ : w7.heap.size ≤ q := hs; have z0_ := HA0.out; have z1_ := Z1.out; have z2_ := GX0.out; have z3_ := GY0.out; have z4_ := Z2.out; omega))); have HG_ := Aside0.mk hy; clear hy hb hk; clear HB BA0 HS HG; have HB := HB_; have BA0 := BA0_; have HS := HS_; have HG := HG_; clear HB_ BA0_ HS_ HG_; clear hcBA00 hfBA00 hcBA01 hfBA01 hcBA02 hfBA02 hcBA03 hfBA03 hcBA04 hfBA04; have hcBA00 : w15.cell? ⟨ga0, 0, none⟩ = some (.slice A0_0 l0_0.length c0_0) := (blk_cell BA0.out 0).trans rfl; have hfBA00 := blk_frozen BA0.out 0; have hcBA01 : w15.cell? ⟨ga0, 1, none⟩ = some (.slice A0_1 l0_1.length c0_1) := (blk_cell BA0.out 1).trans rfl; have hfBA01 := blk_frozen BA0.out 1; have hcBA02 : w15.cell? ⟨ga0, 2, none⟩ = some (.slice A0_2 l0_2.length c0_2) := (blk_cell BA0.out 2).trans rfl; have hfBA02 := blk_frozen BA0.out 2; have hcBA03 : w15.cell? ⟨ga0, 3, none⟩ = some (.int .i64 a0_3) := (blk_cell BA0.out 3).trans rfl; have hfBA03 := blk_frozen BA0.out 3; have hcBA04 : w15.cell? ⟨ga0, 4, none⟩ = some (.int .i64 a0_4) := (blk_cell BA0.out 4).trans rfl; have hfBA04 := blk_frozen BA0.out 4))
  have HL := Aside0.mk (Kd.S_reads' HG.out).1
  rw [HL.out]
  go_wp2_with (first | (go_at_call 38; (with_reducible refine (laws_heldStopS.calls k Ag cg lk 1 th _ (Kd.S_reads' HG.out).2.2 (by have z_ := (Kd.S_reads' HG.out).2.1; rw [HL.out] at z_; exact z_) BH.out).mono ?_); rintro e w16 ⟨rfl, hd⟩; have hb := DB.out hd; have HB_ := Aside0.mk (below_step HB.out hb); have BA0_ := Aside0.mk (blk_below (g := ga0) (o := .cells #[.slice A0_0 l0_0.length c0_0, .slice A0_1 l0_1.length c0_1, .slice A0_2 l0_2.length c0_2, .int .i64 a0_3, .int .i64 a0_4] 53 (0, 0)) BA0.out hb); have HS_ := Aside0.mk (Kd.S_below HS.out hb); have HG_ := Aside0.mk (Kd.S_below HG.out hb); clear hb hd; clear HB BA0 HS HG; have HB := HB_; have BA0 := BA0_; have HS := HS_; have HG := HG_; clear HB_ BA0_ HS_ HG_; clear hcBA00 hfBA00 hcBA01 hfBA01 hcBA02 hfBA02 hcBA03 hfBA03 hcBA04 hfBA04; have hcBA00 : w16.cell? ⟨ga0, 0, none⟩ = some (.slice A0_0 l0_0.length c0_0) := (blk_cell BA0.out 0).trans rfl; have hfBA00 := blk_frozen BA0.out 0; have hcBA01 : w16.cell? ⟨ga0, 1, none⟩ = some (.slice A0_1 l0_1.length c0_1) := (blk_cell BA0.out 1).trans rfl; have hfBA01 := blk_frozen BA0.out 1; have hcBA02 : w16.cell? ⟨ga0, 2, none⟩ = some (.slice A0_2 l0_2.length c0_2) := (blk_cell BA0.out 2).trans rfl; have hfBA02 := blk_frozen BA0.out 2; have hcBA03 : w16.cell? ⟨ga0, 3, none⟩ = some (.int .i64 a0_3) := (blk_cell BA0.out 3).trans rfl; have hfBA03 := blk_frozen BA0.out 3; have hcBA04 : w16.cell? ⟨ga0, 4, none⟩ = some (.int .i64 a0_4) := (blk_cell BA0.out 4).trans rfl; have hfBA04 := blk_frozen BA0.out 4))
  go_wp2_with (first | (go_at_call 26; (with_reducible refine (laws_toHead.calls k A0_0 c0_0 l0_0 A0_1 c0_1 l0_1 A0_2 c0_2 l0_2 a0_3 a0_4 x0_0 x0_1 x0_2 x0_3 x0_4 _ (Kd.C_below HR0_0.out HB.out) HC0_0.out (Kd.C_below HR0_1.out HB.out) HC0_1.out (Kd.C_below HR0_2.out HB.out) HC0_2.out BT0.out).mono ?_); rintro e w17 ⟨v0, v1, v2, rfl, ho0, ho1, ho2, hb⟩; have HX0_0 := Aside0.mk ho0; have HX0_1 := Aside0.mk ho1; have HX0_2 := Aside0.mk ho2; have HB_ := Aside0.mk (below_step HB.out hb); have BA0_ := Aside0.mk (blk_below (g := ga0) (o := .cells #[.slice A0_0 l0_0.length c0_0, .slice A0_1 l0_1.length c0_1, .slice A0_2 l0_2.length c0_2, .int .i64 a0_3, .int .i64 a0_4] 53 (0, 0)) BA0.out hb); have HS_ := Aside0.mk (Kd.S_below HS.out hb); have HG_ := Aside0.mk (Kd.S_below HG.out hb); clear hb ho0 ho1 ho2; clear HB BA0 HS HG; have HB := HB_; have BA0 := BA0_; have HS := HS_; have HG := HG_; clear HB_ BA0_ HS_ HG_; clear hcBA00 hfBA00 hcBA01 hfBA01 hcBA02 hfBA02 hcBA03 hfBA03 hcBA04 hfBA04; have hcBA00 : w17.cell? ⟨ga0, 0, none⟩ = some (.slice A0_0 l0_0.length c0_0) := (blk_cell BA0.out 0).trans rfl; have hfBA00 := blk_frozen BA0.out 0; have hcBA01 : w17.cell? ⟨ga0, 1, none⟩ = some (.slice A0_1 l0_1.length c0_1) := (blk_cell BA0.out 1).trans rfl; have hfBA01 := blk_frozen BA0.out 1; have hcBA02 : w17.cell? ⟨ga0, 2, none⟩ = some (.slice A0_2 l0_2.length c0_2) := (blk_cell BA0.out 2).trans rfl; have hfBA02 := blk_frozen BA0.out 2; have hcBA03 : w17.cell? ⟨ga0, 3, none⟩ = some (.int .i64 a0_3) := (blk_cell BA0.out 3).trans rfl; have hfBA03 := blk_frozen BA0.out 3; have hcBA04 : w17.cell? ⟨ga0, 4, none⟩ = some (.int .i64 a0_4) := (blk_cell BA0.out 4).trans rfl; have hfBA04 := blk_frozen BA0.out 4))
  obtain ⟨Ar0_0, cr0_0, er0_0⟩ := Kd.R_slice HX0_0.out
  subst er0_0
  obtain ⟨Ar0_1, cr0_1, er0_1⟩ := Kd.R_slice HX0_1.out
  subst er0_1
  obtain ⟨Ar0_2, cr0_2, er0_2⟩ := Kd.R_slice HX0_2.out
  subst er0_2
  go_wp2_with (first | (go_at_call 13; (with_reducible refine (impl_CheapestPlan.calls k Ar0_0 cr0_0 x0_0 Ar0_1 cr0_1 x0_1 Ar0_2 cr0_2 x0_2 x0_3 x0_4 g0 g1 g2 _ (Kd.R_reads' HX0_0.out).2.2 (Kd.R_reads' HX0_0.out).2.1 (Kd.R_reads' HX0_1.out).2.2 (Kd.R_reads' HX0_1.out).2.1 (Kd.R_reads' HX0_2.out).2.2 (Kd.R_reads' HX0_2.out).2.1 BG.out).mono ?_); rintro e w18 ⟨v0, rfl, ho, hb⟩; have HO := Aside0.mk ho; have HB_ := Aside0.mk (below_step HB.out hb); have BA0_ := Aside0.mk (blk_below (g := ga0) (o := .cells #[.slice A0_0 l0_0.length c0_0, .slice A0_1 l0_1.length c0_1, .slice A0_2 l0_2.length c0_2, .int .i64 a0_3, .int .i64 a0_4] 53 (0, 0)) BA0.out hb); have HS_ := Aside0.mk (Kd.S_below HS.out hb); have HG_ := Aside0.mk (Kd.S_below HG.out hb); clear hb ho HX0_0 HX0_1 HX0_2; clear HB BA0 HS HG; have HB := HB_; have BA0 := BA0_; have HS := HS_; have HG := HG_; clear HB_ BA0_ HS_ HG_; clear hcBA00 hfBA00 hcBA01 hfBA01 hcBA02 hfBA02 hcBA03 hfBA03 hcBA04 hfBA04; have hcBA00 : w18.cell? ⟨ga0, 0, none⟩ = some (.slice A0_0 l0_0.length c0_0) := (blk_cell BA0.out 0).trans rfl; have hfBA00 := blk_frozen BA0.out 0; have hcBA01 : w18.cell? ⟨ga0, 1, none⟩ = some (.slice A0_1 l0_1.length c0_1) := (blk_cell BA0.out 1).trans rfl; have hfBA01 := blk_frozen BA0.out 1; have hcBA02 : w18.cell? ⟨ga0, 2, none⟩ = some (.slice A0_2 l0_2.length c0_2) := (blk_cell BA0.out 2).trans rfl; have hfBA02 := blk_frozen BA0.out 2; have hcBA03 : w18.cell? ⟨ga0, 3, none⟩ = some (.int .i64 a0_3) := (blk_cell BA0.out 3).trans rfl; have hfBA03 := blk_frozen BA0.out 3; have hcBA04 : w18.cell? ⟨ga0, 4, none⟩ = some (.int .i64 a0_4) := (blk_cell BA0.out 4).trans rfl; have hfBA04 := blk_frozen BA0.out 4))
  obtain ⟨Ah, ch, eh⟩ := Kd.S_slice HO.out
  subst eh
  go_wp2_with (first | (go_at_call 31; (with_reducible refine (laws_eqStopS.calls k Ah ch g0 As cs s0 true _ (Kd.S_reads' HO.out).2.2 (Kd.S_reads' HO.out).2.1 (Kd.S_reads' HS.out).2.2 (Kd.S_reads' HS.out).2.1 BE.out).mono ?_); rintro e w19 ⟨rfl, hb⟩; have HB_ := Aside0.mk (below_step HB.out hb); have BA0_ := Aside0.mk (blk_below (g := ga0) (o := .cells #[.slice A0_0 l0_0.length c0_0, .slice A0_1 l0_1.length c0_1, .slice A0_2 l0_2.length c0_2, .int .i64 a0_3, .int .i64 a0_4] 53 (0, 0)) BA0.out hb); have HS_ := Aside0.mk (Kd.S_below HS.out hb); have HG_ := Aside0.mk (Kd.S_below HG.out hb); clear hb HO; clear HB BA0 HS HG; have HB := HB_; have BA0 := BA0_; have HS := HS_; have HG := HG_; clear HB_ BA0_ HS_ HG_; clear hcBA00 hfBA00 hcBA01 hfBA01 hcBA02 hfBA02 hcBA03 hfBA03 hcBA04 hfBA04; have hcBA00 : w19.cell? ⟨ga0, 0, none⟩ = some (.slice A0_0 l0_0.length c0_0) := (blk_cell BA0.out 0).trans rfl; have hfBA00 := blk_frozen BA0.out 0; have hcBA01 : w19.cell? ⟨ga0, 1, none⟩ = some (.slice A0_1 l0_1.length c0_1) := (blk_cell BA0.out 1).trans rfl; have hfBA01 := blk_frozen BA0.out 1; have hcBA02 : w19.cell? ⟨ga0, 2, none⟩ = some (.slice A0_2 l0_2.length c0_2) := (blk_cell BA0.out 2).trans rfl; have hfBA02 := blk_frozen BA0.out 2; have hcBA03 : w19.cell? ⟨ga0, 3, none⟩ = some (.int .i64 a0_3) := (blk_cell BA0.out 3).trans rfl; have hfBA03 := blk_frozen BA0.out 3; have hcBA04 : w19.cell? ⟨ga0, 4, none⟩ = some (.int .i64 a0_4) := (blk_cell BA0.out 4).trans rfl; have hfBA04 := blk_frozen BA0.out 4))
  go_wp2_with (first | (go_at_call 38; (with_reducible refine (laws_heldStopS.calls k Ag cg lk 1 th _ (Kd.S_reads' HG.out).2.2 (by have z_ := (Kd.S_reads' HG.out).2.1; rw [HL.out] at z_; exact z_) BH.out).mono ?_); rintro e w20 ⟨rfl, hd⟩; have hb := DB.out hd; have HB_ := Aside0.mk (below_step HB.out hb); have BA0_ := Aside0.mk (blk_below (g := ga0) (o := .cells #[.slice A0_0 l0_0.length c0_0, .slice A0_1 l0_1.length c0_1, .slice A0_2 l0_2.length c0_2, .int .i64 a0_3, .int .i64 a0_4] 53 (0, 0)) BA0.out hb); have HS_ := Aside0.mk (Kd.S_below HS.out hb); have HG_ := Aside0.mk (Kd.S_below HG.out hb); clear hb hd; clear HB BA0 HS HG; have HB := HB_; have BA0 := BA0_; have HS := HS_; have HG := HG_; clear HB_ BA0_ HS_ HG_; clear hcBA00 hfBA00 hcBA01 hfBA01 hcBA02 hfBA02 hcBA03 hfBA03 hcBA04 hfBA04; have hcBA00 : w20.cell? ⟨ga0, 0, none⟩ = some (.slice A0_0 l0_0.length c0_0) := (blk_cell BA0.out 0).trans rfl; have hfBA00 := blk_frozen BA0.out 0; have hcBA01 : w20.cell? ⟨ga0, 1, none⟩ = some (.slice A0_1 l0_1.length c0_1) := (blk_cell BA0.out 1).trans rfl; have hfBA01 := blk_frozen BA0.out 1; have hcBA02 : w20.cell? ⟨ga0, 2, none⟩ = some (.slice A0_2 l0_2.length c0_2) := (blk_cell BA0.out 2).trans rfl; have hfBA02 := blk_frozen BA0.out 2; have hcBA03 : w20.cell? ⟨ga0, 3, none⟩ = some (.int .i64 a0_3) := (blk_cell BA0.out 3).trans rfl; have hfBA03 := blk_frozen BA0.out 3; have hcBA04 : w20.cell? ⟨ga0, 4, none⟩ = some (.int .i64 a0_4) := (blk_cell BA0.out 4).trans rfl; have hfBA04 := blk_frozen BA0.out 4))
  go_ret
  exact ⟨by first | rfl | (simp; done) | (simp [*]; done) | (simp [tz_, *]; done), by repeat (first | (with_reducible first | exact HB.out | apply below_alloc | apply pw_below_drewN | apply below_drew1) | exact HB.out)⟩

def laws_FnExactCheapestPlan.Pure : Prop := ∀ (l0_0 : List (S113)) (l0_1 : List Int) (l0_2 : List Int) (a0_3 : Int) (a0_4 : Int), Opn.WfL W113 l0_0 → Opn.WfL (fun a_ => (Lit.int .i64 a_).wf = true) l0_1 → Opn.WfL (fun a_ => (Lit.int .i64 a_).wf = true) l0_2 → (Lit.int .i64 a0_3).wf = true → (Lit.int .i64 a0_4).wf = true → ∃ k, laws_FnExactCheapestPlan.f k l0_0 l0_1 l0_2 a0_3 a0_4 = some true
theorem laws_FnExactCheapestPlan.walk (P : laws_FnExactCheapestPlan.Pure) (A0_0 : Option Addr) (c0_0 : Nat) (l0_0 : List (S113)) (A0_1 : Option Addr) (c0_1 : Nat) (l0_1 : List Int) (A0_2 : Option Addr) (c0_2 : Nat) (l0_2 : List Int) (a0_3 : Int) (a0_4 : Int) (w : World) (hr0_0 : Kd.C k113 w A0_0 l0_0.length l0_0) (hc0_0 : l0_0.length ≤ c0_0) (hr0_1 : Kd.C (Kd.int .i64) w A0_1 l0_1.length l0_1) (hc0_1 : l0_1.length ≤ c0_1) (hr0_2 : Kd.C (Kd.int .i64) w A0_2 l0_2.length l0_2) (hc0_2 : l0_2.length ≤ c0_2) (w0_0 : Opn.WfL W113 l0_0) (w0_1 : Opn.WfL (fun a_ => (Lit.int .i64 a_).wf = true) l0_1) (w0_2 : Opn.WfL (fun a_ => (Lit.int .i64 a_).wf = true) l0_2) (w0_3 : (Lit.int .i64 a0_3).wf = true) (w0_4 : (Lit.int .i64 a0_4).wf = true) :
  Calls Try.prog 8 #[.agg #[.slice A0_0 l0_0.length c0_0, .slice A0_1 l0_1.length c0_1, .slice A0_2 l0_2.length c0_2, .int .i64 a0_3, .int .i64 a0_4]] w fun e w' => e = .returned (.bool true) ∧ Below w.heap.size w w' := by
 obtain ⟨k, h⟩ := P l0_0 l0_1 l0_2 a0_3 a0_4 w0_0 w0_1 w0_2 w0_3 w0_4
 refine (laws_FnExactCheapestPlan.calls k A0_0 c0_0 l0_0 A0_1 c0_1 l0_1 A0_2 c0_2 l0_2 a0_3 a0_4 true w hr0_0 hc0_0 hr0_1 hc0_1 hr0_2 hc0_2 h).mono ?_
 rintro e w' ⟨rfl, hd⟩
 exact ⟨rfl, hd⟩

/- A test at each of some numbers that follow one another. -/
open Go.RowKit Go.Proofs.Ytfcadpkhmkjibaa.P Go.Proofs.YtfcadpkhmkjibaaW.PrintWords Go.Proofs.YtfcadpkhmkjibaaW.PrintLast Go.Proofs.YtfcadpkhmkjibaaW.PrintMore
set_option linter.unusedVariables false
set_option linter.unusedSimpArgs false
def upTo (p : Nat → Bool) : Nat → Nat → Bool
  | 0, _ => true
  | d + 1, i => p i && upTo p d (i + 1)
theorem upTo_iff (p : Nat → Bool) : ∀ (d i : Nat), upTo p d i = true ↔ ∀ j, i ≤ j → j < i + d → p j = true := by
  intro d
  induction d with
  | zero => intro i; simp [upTo]; intro j h1 h2; omega
  | succ d ih =>
    intro i
    simp only [upTo, Bool.and_eq_true, ih]
    constructor
    · intro ⟨h0, h⟩ j h1 h2
      by_cases e : i = j
      · rw [← e]; exact h0
      · exact h j (by omega) (by omega)
    · intro h
      exact ⟨h i (Nat.le_refl _) (by omega), fun j h1 h2 => h j (by omega) (by omega)⟩

/- Numbers in a range that rise. -/
def riseOk (l : List Int) (lo hi : Int) (i : Nat) : Bool := decide (lo ≤ rd l i ∧ rd l i ≤ hi) && (decide (i = 0) || decide (rd l ((i - 1 : Nat) : Int) < rd l i))
def rises (l : List Int) (lo hi : Int) : Bool := upTo (riseOk l lo hi) l.length 0

/- What is asked of a head. -/
def cuOk (cs : List S34) (i : Nat) : Bool := decide (1 ≤ (rd_T34 cs i).f0 ∧ (rd_T34 cs i).f0 ≤ 100) && decide (1 ≤ (rd_T34 cs i).f1 ∧ (rd_T34 cs i).f1 ≤ 1000000)
def hdOk (cs : List S34) (fc st : List Int) (x y : Int) : Bool :=
  decide (1 ≤ (cs.length : Int) ∧ (cs.length : Int) ≤ 5) && (decide ((fc.length : Int) ≤ 60) && (decide ((st.length : Int) ≤ 8) && (rises st 0 (wrap64 ((fc.length : Int) - 1)) && (upTo (cuOk cs) cs.length 0 && (impl_areWithin.all 0 100 fc && (decide (0 ≤ x ∧ x ≤ 10000) && decide (0 ≤ y ∧ y ≤ 10000)))))))

/- How far a cutter lasts, plainly. -/
def reachGo (ax lim : Int) (fc : List Int) : Nat → Nat → Int → Nat
  | 0, i, _ => i
  | d + 1, i, s => if wrap64 (s + wrap64 (ax * rd fc (i : Int))) > lim then i else reachGo ax lim fc d (i + 1) (wrap64 (s + wrap64 (ax * rd fc (i : Int))))
def reachOf (cs : List S34) (fc : List Int) (a b : Nat) (s : Int) : Nat := reachGo (rd_T34 cs (a : Int)).f0 (rd_T34 cs (a : Int)).f1 fc (fc.length - b) b s
/- The stints of a cutter, plainly. -/
theorem reachGo_in (ax lim : Int) (fc : List Int) : ∀ (d i : Nat) (s : Int), i ≤ reachGo ax lim fc d i s ∧ reachGo ax lim fc d i s ≤ i + d
  | 0, i, s => by simp [reachGo]
  | d + 1, i, s => by
    have := reachGo_in ax lim fc d (i + 1) (wrap64 (s + wrap64 (ax * rd fc (i : Int))))
    simp only [reachGo]
    split <;> omega
theorem reachOf_in (cs : List S34) (fc : List Int) (a b : Nat) (s : Int) (hb : b ≤ fc.length) : b ≤ reachOf cs fc a b s ∧ reachOf cs fc a b s ≤ fc.length := by
  unfold reachOf
  have := reachGo_in (rd_T34 cs (a : Int)).f0 (rd_T34 cs (a : Int)).f1 fc (fc.length - b) b s
  omega
def nextOf (st : List Int) (b t : Int) : Nat → Nat → Int → Int
  | 0, _, c => c
  | d + 1, i, c => nextOf st b t d (i + 1) (if rd st (i : Int) > b then (if rd st (i : Int) ≤ t then rd st (i : Int) else c) else c)
def stintsGo (cs : List S34) (fc st : List Int) (a : Nat) : Nat → Nat → List (List Int) → List (List Int) × Bool
  | 0, _, _ => ([], false)
  | d + 1, b, acc => if ((reachOf cs fc a b 0 : Nat) : Int) = (fc.length : Int) then (acc, true) else
      if nextOf st b (reachOf cs fc a b 0 : Nat) st.length 0 (-1) < 0 then ([], false) else
      stintsGo cs fc st a d (nextOf st b (reachOf cs fc a b 0 : Nat) st.length 0 (-1)).toNat (acc ++ [[(b : Int), ((reachOf cs fc a b 0 : Nat) : Int)]])
def stints (cs : List S34) (fc st : List Int) (a : Nat) : List (List Int) × Bool := stintsGo cs fc st a (fc.length + 1) 0 []
/- The bound on a head's cost, plainly. -/
theorem hdOk_in {cs : List S34} {fc st : List Int} {x y : Int} (h : hdOk cs fc st x y = true) : cs.length ≤ 5 ∧ fc.length ≤ 60 ∧ st.length ≤ 8 ∧ (0 ≤ x ∧ x ≤ 10000) ∧ (0 ≤ y ∧ y ≤ 10000) := by
  unfold hdOk at h
  simp only [Bool.and_eq_true, decide_eq_true_eq] at h
  obtain ⟨h1, h2, h3, _, _, _, h4, h5⟩ := h
  exact ⟨by omega, by omega, by omega, h4, h5⟩

/- Plain facts on numbers and lists that every loop's lemma uses. -/
theorem w64 (x : Int) (h1 : -9223372036854775808 ≤ x) (h2 : x ≤ 9223372036854775807) : wrap64 x = x := by unfold wrap64; omega
theorem w64s (i : Nat) (h : i < 9223372036854775807) : wrap64 ((i : Int) + 1) = ((i + 1 : Nat) : Int) := by unfold wrap64; omega
theorem rd_at (l : List Int) (i : Nat) (h : i < l.length) : rd l (i : Int) = l[i] := by
  unfold rd
  rw [Int.toNat_natCast, List.getD_eq_getElem?_getD, List.getElem?_eq_getElem h]
  rfl
theorem drop_at (l : List Int) (i : Nat) (h : i < l.length) : l.drop i = rd l (i : Int) :: l.drop (i + 1) := by
  rw [rd_at l i h, List.drop_eq_getElem_cons h]
theorem fill_step {α : Type} (l acc : List α) (i : Nat) (x : α) (hi : i < l.length) (hl : acc.length = l.length) (h : acc.take i = l.take i) (hx : l[i] = x) : (acc.set i x).take (i + 1) = l.take (i + 1) := by
  subst hx
  have hi2 : i < (acc.set i l[i]).length := by rw [List.length_set]; omega
  rw [List.take_succ_eq_append_getElem hi2, List.take_succ_eq_append_getElem hi, List.getElem_set_self, List.take_set_of_le (Nat.le_refl i), h]
def iota (m : Int) : Nat → List Int
  | 0 => []
  | n + 1 => m :: iota (m + 1) n
theorem iota_length (m : Int) (n : Nat) : (iota m n).length = n := by
  induction n generalizing m with
  | zero => rfl
  | succ n ih => simp [iota, ih]
theorem iota_get (m : Int) (n i : Nat) (h : i < (iota m n).length) : (iota m n)[i] = m + i := by
  induction n generalizing m i with
  | zero => rw [iota_length] at h; omega
  | succ n ih =>
    cases i with
    | zero => simp [iota]
    | succ i =>
      have h2 : i < (iota (m + 1) n).length := by rw [iota_length] at h ⊢; omega
      simp only [iota, List.getElem_cons_succ]
      rw [ih (m + 1) i h2]
      omega
theorem bind_some_ {α β : Type} (a : α) (f : α → Option β) : (some a).bind f = f a := rfl
theorem ite_tt (b r : Bool) : (if b = true then some r else some false) = some (b && r) := by cases b <;> rfl
theorem ite_ff (p : Prop) [Decidable p] (r : Bool) : (if p then some false else some r) = some (!decide p && r) := by by_cases h : p <;> simp [h]
theorem ite_pp (p : Prop) [Decidable p] (r : Bool) : (if p then some r else some false) = some (decide p && r) := by by_cases h : p <;> simp [h]
theorem not_ge_dec (a b : Int) : (!decide (a ≥ b)) = decide (a < b) := by by_cases h : a < b <;> simp [h] <;> omega

/- What is asked of a plan. -/
/- What a plan costs, plainly. -/
def costGo (x y : Int) : List S49 → Int → Int
  | [], s => s
  | t :: l, s => costGo x y l (wrap64 (s + wrap64 (x + wrap64 (y * (t.f1.length : Int)))))
/- Two lists of numbers are compared. -/
theorem eqInt_loop (a b : List Int) (hl : a.length = b.length) (hb : a.length ≤ 9223372036854775807) : ∀ (d k i : Nat), i + d = a.length → d < k → laws_eqInt64S.l0 k a b i = some (decide (a.drop i = b.drop i)) := by
  intro d
  induction d with
  | zero =>
    intro k i hi hk
    obtain ⟨k, rfl⟩ : ∃ m, k = m + 1 := ⟨k - 1, by omega⟩
    simp only [laws_eqInt64S.l0]
    rw [if_neg (by omega), List.drop_of_length_le (by omega), List.drop_of_length_le (by omega)]
    simp
  | succ d ih =>
    intro k i hi hk
    obtain ⟨k, rfl⟩ : ∃ m, k = m + 1 := ⟨k - 1, by omega⟩
    simp only [laws_eqInt64S.l0]
    rw [if_pos (by omega), if_pos (by omega), if_pos (by omega), w64s i (by omega), ih k (i + 1) (by omega) (by omega), drop_at a i (by omega), drop_at b i (by omega)]
    by_cases h : rd a i = rd b i
    · rw [if_pos h]; simp [h]
    · rw [if_neg h]; simp [h]
theorem eqInt_is (k : Nat) (a b : List Int) (hb : a.length ≤ 9223372036854775807) (hk : a.length < k) : laws_eqInt64S.f k a b = some (decide (a = b)) := by
  unfold laws_eqInt64S.f
  by_cases h : a.length = b.length
  · rw [if_pos (by omega)]
    have := eqInt_loop a b h hb a.length k 0 (by omega) hk
    simpa using this
  · rw [if_neg (by omega)]
    have : a ≠ b := fun e => h (by rw [e])
    simp [this]

/- A list of numbers is copied. -/
theorem toInt_loop (l : List Int) (hb : l.length ≤ 9223372036854775807) : ∀ (d k i : Nat) (acc : List Int), i + d = l.length → d < k → acc.length = l.length → acc.take i = l.take i → laws_toInt64S.l0 k l acc i = some l := by
  intro d
  induction d with
  | zero =>
    intro k i acc hi hk ha ht
    obtain ⟨k, rfl⟩ : ∃ m, k = m + 1 := ⟨k - 1, by omega⟩
    simp only [laws_toInt64S.l0]
    rw [if_neg (by omega)]
    rw [List.take_of_length_le (by omega), List.take_of_length_le (by omega)] at ht
    rw [ht]
  | succ d ih =>
    intro k i acc hi hk ha ht
    obtain ⟨k, rfl⟩ : ∃ m, k = m + 1 := ⟨k - 1, by omega⟩
    simp only [laws_toInt64S.l0]
    rw [if_pos (by omega), if_pos (by omega), if_pos (by omega), w64s i (by omega), Int.toNat_natCast]
    exact ih k (i + 1) _ (by omega) (by omega) (by rw [List.length_set]; exact ha) (fill_step l acc i _ (by omega) ha ht (rd_at l i (by omega)).symm)
theorem toInt_is (k : Nat) (l : List Int) (hb : l.length ≤ 35184372088832) (hk : l.length < k) : laws_toInt64S.f k l = some l := by
  unfold laws_toInt64S.f
  rw [if_pos (by omega), if_pos (by omega)]
  exact toInt_loop l (by omega) l.length k 0 _ (by omega) hk (by simp) (by simp)

/- A list of the law's own structs that hold lists is copied into the program's, measured, and equal to itself. -/
theorem rdStop_at (l : List S49) (i : Nat) (h : i < l.length) : rd_T49 l (i : Int) = l[i] := by
  unfold rd_T49
  rw [Int.toNat_natCast, List.getD_eq_getElem?_getD, List.getElem?_eq_getElem h]
  rfl
def shortS (l : List S49) : Prop := l.length ≤ 1048576 ∧ ∀ s ∈ l, s.f1.length ≤ 1048576
theorem shortS_at {l : List S49} (h : shortS l) (i : Nat) (hi : i < l.length) : (rd_T49 l (i : Int)).f1.length ≤ 1048576 := by
  rw [rdStop_at l i hi]
  exact h.2 _ (List.getElem_mem hi)
theorem eqStopS_loop (a : List S49) (hs : shortS a) : ∀ (d k i : Nat), i + d = a.length → d + 1048576 < k → laws_eqStopS.l0 k a a i = some true := by
  intro d
  have hb := hs.1
  induction d with
  | zero =>
    intro k i hi hk
    obtain ⟨k, rfl⟩ : ∃ m, k = m + 1 := ⟨k - 1, by omega⟩
    simp only [laws_eqStopS.l0]
    rw [if_neg (by omega)]
  | succ d ih =>
    intro k i hi hk
    obtain ⟨k, rfl⟩ : ∃ m, k = m + 1 := ⟨k - 1, by omega⟩
    have h1 := shortS_at hs i (by omega)
    simp only [laws_eqStopS.l0, laws_eqStop.f, if_true]
    rw [if_pos (by omega), if_pos (by omega), if_pos (by omega), eqInt_is k _ _ (by omega) (by omega), bind_some_, if_pos (decide_eq_true rfl), bind_some_, if_pos rfl, w64s i (by omega)]
    exact ih k (i + 1) (by omega) (by omega)
theorem eqStopS_refl (k : Nat) (a : List S49) (hs : shortS a) (hk : a.length + 1048576 < k) : laws_eqStopS.f k a a = some true := by
  unfold laws_eqStopS.f
  rw [if_pos rfl]
  exact eqStopS_loop a hs a.length k 0 (by omega) hk

/- What a plan costs, as the program reckons it. -/
theorem implCost_l0 (cs : List S34) (fc st : List Int) (x y : Int) (p : List S49) (hb : p.length ≤ 1048576) : ∀ (d k i : Nat) (s : Int), i + d = p.length → d < k → impl_Head_cost.l0 k s p p.length i cs fc st x y = some (costGo x y (p.drop i) s) := by
  intro d
  induction d with
  | zero =>
    intro k i s hi hk
    obtain ⟨k, rfl⟩ : ∃ m, k = m + 1 := ⟨k - 1, by omega⟩
    simp only [impl_Head_cost.l0]
    rw [if_neg (by omega), List.drop_of_length_le (by omega)]
    rfl
  | succ d ih =>
    intro k i s hi hk
    obtain ⟨k, rfl⟩ : ∃ m, k = m + 1 := ⟨k - 1, by omega⟩
    have hlt : i < p.length := by omega
    have hd : p.drop i = rd_T49 p (i : Int) :: p.drop (i + 1) := by rw [rdStop_at p i hlt, List.drop_eq_getElem_cons hlt]
    simp only [impl_Head_cost.l0]
    rw [if_pos (by omega), if_pos (by omega), if_pos (by omega), w64s i (by omega), ih k (i + 1) _ (by omega) (by omega), hd]
    rfl

/- Numbers in a range, as the program asks it of a list. -/
theorem areWithin2 (a b lo hi : Int) : impl_areWithin.all lo hi [a, b] = (decide (lo ≤ a ∧ a ≤ hi) && decide (lo ≤ b ∧ b ≤ hi)) := by
  simp [impl_areWithin.all]

/- A number lies in a range, as the program asks it. -/
theorem within_is (a b c : Int) : impl_within.f a b c = some (decide (b ≤ a ∧ a ≤ c)) := by
  unfold impl_within.f
  by_cases h : b ≤ a <;> simp [h]

/- Numbers in a range that rise, as the program asks it. -/
theorem implRises_loop (l : List Int) (n : Int) (hb : l.length ≤ 9223372036854775806) : ∀ (d k i : Nat), i + d = l.length → d < k → impl_isSet.l0 k l n l l.length i = some (upTo (riseOk l 0 (wrap64 (n - 1))) d i) := by
  intro d
  induction d with
  | zero =>
    intro k i hi' hk
    obtain ⟨k, rfl⟩ : ∃ m, k = m + 1 := ⟨k - 1, by omega⟩
    simp only [impl_isSet.l0]
    rw [if_neg (by omega)]
    rfl
  | succ d ih =>
    intro k i hi' hk
    obtain ⟨k, rfl⟩ : ∃ m, k = m + 1 := ⟨k - 1, by omega⟩
    have hz := ih k (i + 1) (by omega) (by omega)
    simp only [impl_isSet.l0, within_is, bind_some_, upTo, riseOk]
    rw [if_pos (by omega), if_pos (by omega), if_pos (by omega), w64s i (by omega), hz]
    by_cases h : i = 0
    · rw [if_neg (show ¬ (i : Int) > 0 by omega), ite_tt, decide_eq_true h, Bool.true_or, Bool.and_true]
    · have e : wrap64 ((i : Int) - 1) = ((i - 1 : Nat) : Int) := by rw [w64 _ (by omega) (by omega)]; omega
      rw [if_pos (show (i : Int) > 0 by omega), e, if_pos (show (0 : Int) ≤ ((i - 1 : Nat) : Int) by omega), if_pos (show ((i - 1 : Nat) : Int) < (l.length : Int) by omega), ite_ff, ite_tt, not_ge_dec, decide_eq_false h, Bool.false_or, Bool.and_assoc]
theorem implRises_is (k : Nat) (l : List Int) (n : Int) (hb : l.length ≤ 9223372036854775806) (hk : l.length < k) : impl_isSet.f k l n = some (rises l 0 (wrap64 (n - 1))) := by
  unfold impl_isSet.f rises
  exact implRises_loop l n hb l.length k 0 (by omega) hk

/- What the program asks of a head. -/
theorem implHead_l0 (cs : List S34) (fc st : List Int) (x y : Int) (hc : cs.length ≤ 1048576) (hb : fc.length ≤ 1048576) (hs : st.length ≤ 1048576) : ∀ (d k i : Nat), i + d = cs.length → d + st.length + 1 < k → impl_ValidHead.l0 k cs cs.length i cs fc st x y = some (upTo (cuOk cs) d i && (decide (1 ≤ (cs.length : Int) ∧ (cs.length : Int) ≤ 5) && (decide ((fc.length : Int) ≤ 60) && (impl_areWithin.all 0 100 fc && (decide ((st.length : Int) ≤ 8) && (rises st 0 (wrap64 ((fc.length : Int) - 1)) && (decide (0 ≤ x ∧ x ≤ 10000) && decide (0 ≤ y ∧ y ≤ 10000)))))))) := by
  intro d
  induction d with
  | zero =>
    intro k i hi' hk
    obtain ⟨k, rfl⟩ : ∃ m, k = m + 1 := ⟨k - 1, by omega⟩
    simp only [impl_ValidHead.l0, within_is, impl_areWithin.f, bind_some_, areWithin2]
    rw [if_neg (by omega), implRises_is k st _ (by omega) (by omega)]
    simp only [bind_some_, ite_tt, ite_pp, upTo, Bool.true_and, Bool.decide_eq_true]
  | succ d ih =>
    intro k i hi' hk
    obtain ⟨k, rfl⟩ : ∃ m, k = m + 1 := ⟨k - 1, by omega⟩
    have hz := ih k (i + 1) (by omega) (by omega)
    simp only [impl_ValidHead.l0, within_is, bind_some_]
    rw [if_pos (by omega), if_pos (by omega), if_pos (by omega), w64s i (by omega), hz, ite_tt, ite_tt]
    simp only [upTo, cuOk, Bool.and_assoc]
theorem implHead_is (k : Nat) (cs : List S34) (fc st : List Int) (x y : Int) (hc : cs.length ≤ 1048576) (hb : fc.length ≤ 1048576) (hs : st.length ≤ 1048576) (hk : cs.length + st.length + 3 < k) : impl_ValidHead.f k cs fc st x y = some (hdOk cs fc st x y) := by
  unfold impl_ValidHead.f
  have h0 := implHead_l0 cs fc st x y hc hb hs cs.length k 0 (by omega) (by omega)
  rw [show ((0 : Nat) : Int) = 0 by rfl] at h0
  rw [h0]
  unfold hdOk
  congr 1
  ac_rfl

/- How far a cutter lasts, as the program reckons it. -/
theorem implReach_l0 (cs : List S34) (fc st : List Int) (x y ax lim : Int) (hb : fc.length ≤ 9223372036854775806) : ∀ (d k i : Nat) (s : Int), i + d = fc.length → d < k → impl_Head_reach.l0 k i s cs fc st x y ax lim = some ((reachGo ax lim fc d i s : Nat) : Int) := by
  intro d
  induction d with
  | zero =>
    intro k i s hi hk
    obtain ⟨k, rfl⟩ : ∃ m, k = m + 1 := ⟨k - 1, by omega⟩
    simp only [impl_Head_reach.l0, reachGo]
    rw [if_neg (by omega)]
  | succ d ih =>
    intro k i s hi hk
    obtain ⟨k, rfl⟩ : ∃ m, k = m + 1 := ⟨k - 1, by omega⟩
    simp only [impl_Head_reach.l0, reachGo]
    rw [if_pos (by omega), if_pos (by omega), w64s i (by omega), ih k (i + 1) _ (by omega) (by omega)]
    split <;> rfl
theorem implReach_is (k : Nat) (cs : List S34) (fc st : List Int) (x y : Int) (a b : Nat) (s : Int) (ha : a < cs.length) (hb : fc.length ≤ 9223372036854775806) (hbl : b ≤ fc.length) (hk : fc.length < k) : impl_Head_reach.f k cs fc st x y a b s = some ((reachOf cs fc a b s : Nat) : Int) := by
  unfold impl_Head_reach.f reachOf
  rw [if_pos (by omega), if_pos (by omega)]
  exact implReach_l0 cs fc st x y _ _ hb (fc.length - b) k b s (by omega) (by omega)

/- How worn the cutters are, plainly. -/
theorem rises_mem {l : List Int} {lo hi : Int} (h : rises l lo hi = true) : ∀ c ∈ l, lo ≤ c ∧ c ≤ hi := by
  intro c hc
  obtain ⟨i, hi, rfl⟩ := List.getElem_of_mem hc
  unfold rises at h
  have h2 := (upTo_iff _ _ _).mp h i (by omega) (by omega)
  simp only [riseOk, Bool.and_eq_true, decide_eq_true_eq] at h2
  rw [rd_at l i hi] at h2
  exact h2.1
theorem hd_cut {cs : List S34} {fc st : List Int} {x y : Int} (h : hdOk cs fc st x y = true) (i : Nat) (hi : i < cs.length) : (1 ≤ (rd_T34 cs i).f0 ∧ (rd_T34 cs i).f0 ≤ 100) ∧ (1 ≤ (rd_T34 cs i).f1 ∧ (rd_T34 cs i).f1 ≤ 1000000) := by
  unfold hdOk at h
  simp only [Bool.and_eq_true, decide_eq_true_eq] at h
  have h2 := (upTo_iff _ _ _).mp h.2.2.2.2.1 i (by omega) (by omega)
  simpa only [cuOk, Bool.and_eq_true, decide_eq_true_eq] using h2
theorem hd_hard {cs : List S34} {fc st : List Int} {x y : Int} (h : hdOk cs fc st x y = true) (i : Nat) (hi : i < fc.length) : 0 ≤ rd fc (i : Int) ∧ rd fc (i : Int) ≤ 100 := by
  unfold hdOk impl_areWithin.all at h
  simp only [Bool.and_eq_true, decide_eq_true_eq, List.all_eq_true] at h
  rw [rd_at fc i hi]
  exact h.2.2.2.2.2.1 _ (List.getElem_mem hi)
theorem mul100 (a b : Int) (ha : 0 ≤ a ∧ a ≤ 100) (hb : 0 ≤ b ∧ b ≤ 100) : 0 ≤ a * b ∧ a * b ≤ 10000 := by
  constructor
  · exact Int.mul_nonneg ha.1 hb.1
  · have h1 : a * b ≤ 100 * b := Int.mul_le_mul_of_nonneg_right ha.2 hb.1
    omega
def chg (p : List S49) (c n : Int) : Bool := p.any fun s => decide (s.f0 = n) && decide (c ∈ s.f1)
def wearStep (cs : List S34) (fc : List Int) (c n : Nat) : Int := (rd_T34 cs (c : Int)).f0 * rd fc (n : Int)
def wearP (cs : List S34) (fc : List Int) (p : List S49) (c : Nat) : Nat → Int
  | 0 => 0
  | n + 1 => if chg p c ((n + 1 : Nat) : Int) = true then 0 else wearP cs fc p c n + wearStep cs fc c n
def wearIn (cs : List S34) (fc : List Int) (p : List S49) (c : Nat) : Nat → Int
  | 0 => 0
  | n + 1 => wearP cs fc p c n + wearStep cs fc c n
theorem wearP_eq (cs : List S34) (fc : List Int) (p : List S49) (c n : Nat) : wearP cs fc p c n = if chg p c (n : Int) = true then 0 else wearIn cs fc p c n := by
  cases n with
  | zero => simp [wearP, wearIn]
  | succ n => rfl
theorem step_in {cs : List S34} {fc st : List Int} {x y : Int} (h : hdOk cs fc st x y = true) (c n : Nat) (hc : c < cs.length) (hn : n < fc.length) : 0 ≤ wearStep cs fc c n ∧ wearStep cs fc c n ≤ 10000 := by
  have h1 := (hd_cut h c hc).1
  have h2 := hd_hard h n hn
  exact mul100 _ _ ⟨by omega, h1.2⟩ h2
theorem wearP_in {cs : List S34} {fc st : List Int} {x y : Int} (p : List S49) (h : hdOk cs fc st x y = true) (c : Nat) (hc : c < cs.length) : ∀ n : Nat, n ≤ fc.length → 0 ≤ wearP cs fc p c n ∧ wearP cs fc p c n ≤ 10000 * n
  | 0, _ => by simp [wearP]
  | n + 1, hn => by
    have h1 := wearP_in p h c hc n (by omega)
    have h2 := step_in h c n hc (by omega)
    simp only [wearP]
    split <;> omega
def planIn (n : Nat) (p : List S49) : Prop := shortS p ∧ ∀ s ∈ p, ∀ c ∈ s.f1, 0 ≤ c ∧ c < n
def failC (cs : List S34) (fc : List Int) (p : List S49) (n : Nat) : Nat → Nat → Option Nat
  | 0, _ => none
  | d + 1, c => if wearP cs fc p c n + wearStep cs fc c n > (rd_T34 cs (c : Int)).f1 then some c else failC cs fc p n d (c + 1)
def failN (cs : List S34) (fc : List Int) (p : List S49) : Nat → Nat → Option (Nat × Nat)
  | 0, _ => none
  | d + 1, n => match failC cs fc p n cs.length 0 with
    | some c => some (c, n)
    | none => failN cs fc p d (n + 1)
def failP (cs : List S34) (fc : List Int) (p : List S49) : Option (Nat × Nat) := failN cs fc p fc.length 0

/- A list that is told by what stands at each place. -/
def wl (n : Nat) (f : Nat → Int) : List Int := (List.range n).map f
theorem wl_len (n : Nat) (f : Nat → Int) : (wl n f).length = n := by simp [wl]
theorem wl_get (n : Nat) (f : Nat → Int) (i : Nat) (h : i < (wl n f).length) : (wl n f)[i] = f i := by simp [wl]
theorem wl_rd (n : Nat) (f : Nat → Int) (i : Nat) (h : i < n) : rd (wl n f) (i : Int) = f i := by
  rw [rd_at _ i (by rw [wl_len]; exact h), wl_get]
theorem wl_congr (n : Nat) (f g : Nat → Int) (h : ∀ c, c < n → f c = g c) : wl n f = wl n g := by
  unfold wl
  apply List.map_congr_left
  intro c hc
  exact h c (List.mem_range.mp hc)
theorem wl_set (n : Nat) (f : Nat → Int) (i : Nat) (v : Int) : (wl n f).set i v = wl n (fun c => if c = i then v else f c) := by
  apply List.ext_getElem
  · rw [List.length_set, wl_len, wl_len]
  · intro j h1 h2
    rw [List.getElem_set, wl_get, wl_get]
    by_cases e : i = j
    · rw [if_pos e]
      show v = if j = i then v else f j
      rw [if_pos e.symm]
    · rw [if_neg e]
      show f j = if j = i then v else f j
      rw [if_neg (fun q : j = i => e q.symm)]
theorem wl_zero (n : Nat) : List.replicate n (0 : Int) = wl n (fun _ => 0) := by
  apply List.ext_getElem
  · rw [List.length_replicate, wl_len]
  · intro j h1 h2
    rw [wl_get, List.getElem_replicate]
/- How worn the cutters are, as the program reckons it. -/
theorem implWorn_l2 (cs : List S34) (fc st : List Int) (x y : Int) (p pl : List S49) (R n m i : Int) (ch : List Int) (hl : ch.length ≤ 1048576) (hch : ∀ c ∈ ch, 0 ≤ c ∧ c < cs.length) (F : Nat → Int) (out : Option (List Int)) (B : Nat)
    (hcont : ∀ k, B ≤ k → impl_Head_worn.l1 k p R (wl cs.length F) n pl m (wrap64 (i + 1)) cs fc st x y = out) : ∀ (d k j : Nat) (f : Nat → Int), j + d = ch.length → B + d < k → (∀ c : Nat, (if (c : Int) ∈ ch.drop j then 0 else f c) = F c) → impl_Head_worn.l2 k p R (wl cs.length f) n pl m i ch ch.length j cs fc st x y = out := by
  intro d
  induction d with
  | zero =>
    intro k j f hj hk hf
    obtain ⟨k, rfl⟩ : ∃ m, k = m + 1 := ⟨k - 1, by omega⟩
    simp only [impl_Head_worn.l2]
    rw [if_neg (by omega)]
    have e : f = F := by
      funext c
      have := hf c
      rw [List.drop_of_length_le (by omega)] at this
      simpa using this
    rw [e]
    exact hcont k (by omega)
  | succ d ih =>
    intro k j f hj hk hf
    obtain ⟨k, rfl⟩ : ∃ m, k = m + 1 := ⟨k - 1, by omega⟩
    have hc := hch _ (List.getElem_mem (show j < ch.length by omega))
    rw [← rd_at ch j (by omega)] at hc
    obtain ⟨q, hq⟩ : ∃ q : Nat, rd ch (j : Int) = q := ⟨(rd ch (j : Int)).toNat, by omega⟩
    simp only [impl_Head_worn.l2]
    rw [if_pos (by omega), if_pos (by omega), if_pos (by omega), if_pos hc.1, if_pos (by rw [wl_len]; exact hc.2), hq, Int.toNat_natCast, wl_set, w64s j (by omega)]
    refine ih k (j + 1) _ (by omega) (by omega) ?_
    intro c
    rw [← hf c, drop_at ch j (by omega), hq]
    by_cases h1 : c = q
    · subst h1
      simp
    · have h2 : ¬ (c : Int) = (q : Int) := by omega
      simp [h1, h2]
theorem implWorn_l1 (M : Nat) (hM : 1048580 ≤ M) (cs : List S34) (fc st : List Int) (x y : Int) (p : List S49) (R n : Int) (hp : planIn cs.length p) (F : Nat → Int) (out : Option (List Int)) (B : Nat)
    (hcont : ∀ k, B ≤ k → impl_Head_worn.l3 k p R (wl cs.length F) n cs cs.length 0 cs fc st x y = out) : ∀ (d k i : Nat) (f : Nat → Int), i + d = p.length → B + d * M < k → (∀ c : Nat, (if chg (p.drop i) c n = true then 0 else f c) = F c) → impl_Head_worn.l1 k p R (wl cs.length f) n p p.length i cs fc st x y = out := by
  intro d
  have hb := hp.1.1
  induction d with
  | zero =>
    intro k i f hj hk hf
    obtain ⟨k, rfl⟩ : ∃ m, k = m + 1 := ⟨k - 1, by omega⟩
    simp only [impl_Head_worn.l1]
    rw [if_neg (by omega)]
    have e : f = F := by
      funext c
      have := hf c
      rw [List.drop_of_length_le (by omega)] at this
      simpa [chg] using this
    rw [e]
    exact hcont k (by omega)
  | succ d ih =>
    intro k i f hj hk hf
    obtain ⟨k, rfl⟩ : ∃ m, k = m + 1 := ⟨k - 1, by omega⟩
    have hlt : i < p.length := by omega
    have hdm : (d + 1) * M = d * M + M := Nat.succ_mul d M
    have hs := shortS_at hp.1 i hlt
    have hm := hp.2 _ (List.getElem_mem hlt)
    rw [← rdStop_at p i hlt] at hm
    have hd : p.drop i = rd_T49 p (i : Int) :: p.drop (i + 1) := by rw [rdStop_at p i hlt, List.drop_eq_getElem_cons hlt]
    simp only [impl_Head_worn.l1]
    rw [if_pos (by omega), if_pos (by omega), if_pos (by omega)]
    by_cases h1 : (rd_T49 p (i : Int)).f0 = n
    · rw [if_pos h1]
      refine implWorn_l2 cs fc st x y p p R n p.length i _ hs hm (fun c => if (c : Int) ∈ (rd_T49 p (i : Int)).f1 then 0 else f c) out (B + d * M + 1) ?_ (rd_T49 p (i : Int)).f1.length k 0 f (by omega) (by omega) ?_
      · intro k2 hk2
        rw [w64s i (by omega)]
        refine ih k2 (i + 1) _ (by omega) (by omega) ?_
        intro c
        rw [← hf c, hd]
        simp only [chg, List.any_cons]
        by_cases h2 : (c : Int) ∈ (rd_T49 p (i : Int)).f1
        · simp [h1, h2]
        · simp [h2]
      · intro c
        rw [List.drop_zero]
    · rw [if_neg h1, w64s i (by omega)]
      refine ih k (i + 1) _ (by omega) (by omega) ?_
      intro c
      rw [← hf c, hd]
      simp [chg, h1]
theorem implWorn_l3a (cs : List S34) (fc st : List Int) (x y : Int) (hh : hdOk cs fc st x y = true) (p : List S49) (R n : Nat) (hn : n < R) (hR : R ≤ fc.length) (F : Nat → Int) (out : Option (List Int)) (B : Nat)
    (hcont : ∀ k, B ≤ k → impl_Head_worn.l0 k p R (wl cs.length F) ((n + 1 : Nat) : Int) cs fc st x y = out) : ∀ (d k j : Nat) (f : Nat → Int), j + d = cs.length → B + d < k → (∀ c : Nat, j ≤ c → c < cs.length → 0 ≤ f c ∧ f c ≤ 10000000) → (∀ c : Nat, c < cs.length → (if j ≤ c then f c + wearStep cs fc c n else f c) = F c) → impl_Head_worn.l3 k p R (wl cs.length f) n cs cs.length j cs fc st x y = out := by
  intro d
  have hin := hdOk_in hh
  induction d with
  | zero =>
    intro k j f hj hk hf hF
    obtain ⟨k, rfl⟩ : ∃ m, k = m + 1 := ⟨k - 1, by omega⟩
    simp only [impl_Head_worn.l3]
    rw [if_neg (by omega), w64s n (by omega), wl_congr cs.length f F (fun c hc => by have := hF c hc; rwa [if_neg (by omega)] at this)]
    exact hcont k (by omega)
  | succ d ih =>
    intro k j f hj hk hf hF
    obtain ⟨k, rfl⟩ : ∃ m, k = m + 1 := ⟨k - 1, by omega⟩
    have h1 := hf j (Nat.le_refl _) (by omega)
    have h2 := step_in hh j n (by omega) (by omega)
    have e1 : wrap64 ((rd_T34 cs (j : Int)).f0 * rd fc (n : Int)) = wearStep cs fc j n := by
      unfold wearStep at h2 ⊢
      rw [w64 _ (by omega) (by omega)]
    simp only [impl_Head_worn.l3]
    rw [if_pos (by omega), if_pos (by omega), if_pos (by omega), if_pos (by omega), if_pos (by rw [wl_len]; omega), if_pos (by omega), if_pos (by omega), e1, wl_rd _ _ j (by omega), w64 (f j + wearStep cs fc j n) (by omega) (by omega), Int.toNat_natCast, wl_set, w64s j (by omega)]
    refine ih k (j + 1) _ (by omega) (by omega) ?_ ?_
    · intro c h3 h4
      rw [if_neg (by omega)]
      exact hf c (by omega) h4
    · intro c h3
      rw [← hF c h3]
      by_cases h4 : c = j
      · subst h4
        rw [if_neg (by omega), if_pos rfl, if_pos (Nat.le_refl _)]
      · by_cases h5 : j ≤ c
        · rw [if_pos (by omega), if_neg h4, if_pos h5]
        · rw [if_neg (by omega), if_neg h4, if_neg h5]
theorem implWorn_l3b (cs : List S34) (fc st : List Int) (x y : Int) (p : List S49) (R : Nat) (hR : R ≤ 1048576) (hc : cs.length ≤ 1048576) (o : List Int) (out : Option (List Int)) (B : Nat)
    (hcont : ∀ k, B ≤ k → impl_Head_worn.l0 k p R o ((R + 1 : Nat) : Int) cs fc st x y = out) : ∀ (d k j : Nat), j + d = cs.length → B + d < k → impl_Head_worn.l3 k p R o R cs cs.length j cs fc st x y = out := by
  intro d
  induction d with
  | zero =>
    intro k j hj hk
    obtain ⟨k, rfl⟩ : ∃ m, k = m + 1 := ⟨k - 1, by omega⟩
    simp only [impl_Head_worn.l3]
    rw [if_neg (by omega), w64s R (by omega)]
    exact hcont k (by omega)
  | succ d ih =>
    intro k j hj hk
    obtain ⟨k, rfl⟩ : ∃ m, k = m + 1 := ⟨k - 1, by omega⟩
    simp only [impl_Head_worn.l3]
    rw [if_pos (by omega), if_pos (by omega), if_pos (by omega), if_neg (by omega), w64s j (by omega)]
    exact ih k (j + 1) (by omega) (by omega)
theorem implWorn_l0 (M C : Nat) (hM : 1048580 ≤ M) (cs : List S34) (fc st : List Int) (x y : Int) (hh : hdOk cs fc st x y = true) (p : List S49) (hp : planIn cs.length p) (R : Nat) (hR : R ≤ fc.length) (hC : p.length * M + 1000 ≤ C) : ∀ (e k n : Nat), n + e = R → (e + 1) * C < k → impl_Head_worn.l0 k p R (wl cs.length (fun c => wearIn cs fc p c n)) n cs fc st x y = some (wl cs.length (fun c => wearP cs fc p c R)) := by
  intro e
  have hin := hdOk_in hh
  have hb := hp.1.1
  induction e with
  | zero =>
    intro k n hn hk
    rw [Nat.zero_add, Nat.one_mul] at hk
    have hn2 : n = R := by omega
    subst hn2
    obtain ⟨k, rfl⟩ : ∃ m, k = m + 1 := ⟨k - 1, by omega⟩
    simp only [impl_Head_worn.l0]
    rw [if_pos (Int.le_refl _)]
    refine implWorn_l1 M hM cs fc st x y p n n hp (fun c => wearP cs fc p c n) _ 100 ?_ p.length k 0 _ (by omega) (by omega) ?_
    · intro k2 hk2
      refine implWorn_l3b cs fc st x y p n (by omega) (by omega) _ _ 1 ?_ cs.length k2 0 (by omega) (by omega)
      intro k3 hk3
      obtain ⟨k3, rfl⟩ : ∃ m, k3 = m + 1 := ⟨k3 - 1, by omega⟩
      simp only [impl_Head_worn.l0]
      rw [if_neg (by omega)]
    · intro c
      rw [List.drop_zero, wearP_eq]
  | succ e ih =>
    intro k n hn hk
    have hec : (e + 1 + 1) * C = (e + 1) * C + C := Nat.succ_mul (e + 1) C
    obtain ⟨k, rfl⟩ : ∃ m, k = m + 1 := ⟨k - 1, by omega⟩
    simp only [impl_Head_worn.l0]
    rw [if_pos (by omega)]
    refine implWorn_l1 M hM cs fc st x y p R n hp (fun c => wearP cs fc p c n) _ ((e + 1) * C + 100) ?_ p.length k 0 _ (by omega) (by omega) ?_
    · intro k2 hk2
      refine implWorn_l3a cs fc st x y hh p R n (by omega) hR (fun c => wearIn cs fc p c (n + 1)) _ ((e + 1) * C + 1) ?_ cs.length k2 0 _ (by omega) (by omega) ?_ ?_
      · intro k3 hk3
        exact ih k3 (n + 1) (by omega) (by omega)
      · intro c _ hc
        have := wearP_in p hh c hc n (by omega)
        omega
      · intro c hc
        rw [if_pos (Nat.zero_le _)]
        rfl
    · intro c
      rw [List.drop_zero, wearP_eq]
def wearOk (n : Nat) : Prop := 61 * 1099515900000 < n
theorem implWorn_is (wearK : Nat) (hW : wearOk wearK) (k : Nat) (cs : List S34) (fc st : List Int) (x y : Int) (hh : hdOk cs fc st x y = true) (p : List S49) (hp : planIn cs.length p) (R : Nat) (hR : R ≤ fc.length) (hk : wearK ≤ k) : impl_Head_worn.f k cs fc st x y p R = some (wl cs.length (fun c => wearP cs fc p c R)) := by
  have hin := hdOk_in hh
  have h1 : p.length * 1048580 ≤ 1048576 * 1048580 := Nat.mul_le_mul_right _ hp.1.1
  have h2 : (1048576 * 1048580 + 1000 : Nat) ≤ 1099515900000 := by decide
  have h3 : (R + 1) * 1099515900000 ≤ 61 * 1099515900000 := Nat.mul_le_mul_right _ (by omega)
  have h4 : 61 * 1099515900000 < wearK := hW
  unfold impl_Head_worn.f
  rw [if_pos (by omega), if_pos (by omega), Int.toNat_natCast, wl_zero]
  exact implWorn_l0 1048580 1099515900000 (Nat.le_refl _) cs fc st x y hh p hp R hR (Nat.le_trans (Nat.add_le_add_right h1 1000) h2) R k 0 (by omega) (Nat.lt_of_le_of_lt h3 (Nat.lt_of_lt_of_le h4 hk))
theorem implFail_l1 (cs : List S34) (fc st : List Int) (x y : Int) (hh : hdOk cs fc st x y = true) (p : List S49) (n : Nat) (hn : n < fc.length) (m : Int) (out : Option (Int × Int)) (B : Nat)
    (hcont : failC cs fc p n cs.length 0 = none → ∀ k, B ≤ k → impl_Head_failure.l0 k p fc m ((n + 1 : Nat) : Int) cs fc st x y = out) (hfound : ∀ c, failC cs fc p n cs.length 0 = some c → out = some ((c : Int), (n : Int))) : ∀ (d k j : Nat), j + d = cs.length → B + d < k → failC cs fc p n d j = failC cs fc p n cs.length 0 → impl_Head_failure.l1 k p n (rd fc (n : Int)) (wl cs.length (fun c => wearP cs fc p c n)) fc m n cs cs.length j cs fc st x y = out := by
  intro d
  have hin := hdOk_in hh
  induction d with
  | zero =>
    intro k j hj hk he
    obtain ⟨k, rfl⟩ : ∃ m, k = m + 1 := ⟨k - 1, by omega⟩
    simp only [impl_Head_failure.l1]
    rw [if_neg (by omega), w64s n (by omega)]
    exact hcont (by rw [← he]; rfl) k (by omega)
  | succ d ih =>
    intro k j hj hk he
    obtain ⟨k, rfl⟩ : ∃ m, k = m + 1 := ⟨k - 1, by omega⟩
    have h1 := wearP_in p hh j (by omega) n (by omega)
    have h2 := step_in hh j n (by omega) hn
    have e1 : wrap64 ((rd_T34 cs (j : Int)).f0 * rd fc (n : Int)) = wearStep cs fc j n := by
      unfold wearStep at h2 ⊢
      rw [w64 _ (by omega) (by omega)]
    simp only [impl_Head_failure.l1]
    rw [if_pos (by omega), if_pos (by omega), if_pos (by omega), if_pos (by rw [wl_len]; omega), e1, wl_rd _ _ j (by omega), w64 (wearP cs fc p j n + wearStep cs fc j n) (by omega) (by omega), w64s j (by omega)]
    simp only [failC] at he
    by_cases h3 : wearP cs fc p j n + wearStep cs fc j n > (rd_T34 cs (j : Int)).f1
    · rw [if_pos h3] at he ⊢
      exact (hfound j he.symm).symm
    · rw [if_neg h3] at he ⊢
      exact ih k (j + 1) (by omega) (by omega) he
theorem implFail_l0 (wearK : Nat) (hW : wearOk wearK) (cs : List S34) (fc st : List Int) (x y : Int) (hh : hdOk cs fc st x y = true) (p : List S49) (hp : planIn cs.length p) : ∀ (d k n : Nat), n + d = fc.length → wearK + 100 * d < k → impl_Head_failure.l0 k p fc fc.length n cs fc st x y = some (match failN cs fc p d n with | some (c, n) => ((c : Int), (n : Int)) | none => (-1, -1)) := by
  intro d
  have hin := hdOk_in hh
  induction d with
  | zero =>
    intro k n hn hk
    obtain ⟨k, rfl⟩ : ∃ m, k = m + 1 := ⟨k - 1, by omega⟩
    simp only [impl_Head_failure.l0, failN]
    rw [if_neg (by omega)]
  | succ d ih =>
    intro k n hn hk
    obtain ⟨k, rfl⟩ : ∃ m, k = m + 1 := ⟨k - 1, by omega⟩
    simp only [impl_Head_failure.l0, failN]
    rw [if_pos (by omega), if_pos (by omega), if_pos (by omega), implWorn_is wearK hW k cs fc st x y hh p hp n (by omega) (by omega), bind_some_]
    refine implFail_l1 cs fc st x y hh p n (by omega) _ _ (wearK + 100 * d + 1) ?_ ?_ cs.length k 0 (by omega) (by omega) rfl
    · intro h1 k2 hk2
      rw [h1]
      exact ih k2 (n + 1) (by omega) (by omega)
    · intro c hc
      rw [hc]
theorem implFail_is (wearK : Nat) (hW : wearOk wearK) (k : Nat) (cs : List S34) (fc st : List Int) (x y : Int) (hh : hdOk cs fc st x y = true) (p : List S49) (hp : planIn cs.length p) (hk : wearK + 10000 ≤ k) : impl_Head_failure.f k cs fc st x y p = some (match failP cs fc p with | some (c, n) => ((c : Int), (n : Int)) | none => (-1, -1)) := by
  have hin := hdOk_in hh
  unfold impl_Head_failure.f failP
  exact implFail_l0 wearK hW cs fc st x y hh p hp fc.length k 0 (by omega) (by omega)

/- The plan for stops, plainly. -/
def pickGo (cs : List S34) (fc : List Int) (p : List S49) (r nx : Nat) : Nat → Nat → List Int
  | 0, _ => []
  | d + 1, c => if reachOf cs fc c r (wearP cs fc p c r) < nx then (c : Int) :: pickGo cs fc p r nx d (c + 1) else pickGo cs fc p r nx d (c + 1)
def pick (cs : List S34) (fc : List Int) (p : List S49) (r nx : Nat) : List Int := pickGo cs fc p r nx cs.length 0
def forStep (cs : List S34) (fc : List Int) (r nx : Nat) (p : List S49) : List S49 :=
  if ((pick cs fc p r nx).length : Int) > 0 then p ++ [⟨(r : Int), pick cs fc p r nx⟩] else p
def nextAt (fc s : List Int) (i : Nat) : Nat := if ((i + 1 : Nat) : Int) < (s.length : Int) then (rd s ((i + 1 : Nat) : Int)).toNat else fc.length
def forGo (cs : List S34) (fc s : List Int) : Nat → Nat → List S49 → List S49
  | 0, _, p => p
  | d + 1, i, p => forGo cs fc s d (i + 1) (forStep cs fc (rd s (i : Int)).toNat (nextAt fc s i) p)
def forP (cs : List S34) (fc s : List Int) : List S49 := forGo cs fc s s.length 0 []
theorem pickGo_in (cs : List S34) (fc : List Int) (p : List S49) (r nx : Nat) : ∀ d c : Nat, (pickGo cs fc p r nx d c).length ≤ d ∧ ∀ v ∈ pickGo cs fc p r nx d c, (c : Int) ≤ v ∧ v < ((c + d : Nat) : Int)
  | 0, c => by simp [pickGo]
  | d + 1, c => by
    obtain ⟨h1, h2⟩ := pickGo_in cs fc p r nx d (c + 1)
    simp only [pickGo]
    split
    · refine ⟨by simp only [List.length_cons]; omega, ?_⟩
      intro v hv
      rcases List.mem_cons.mp hv with h | h
      · rw [h]; omega
      · have := h2 v h; omega
    · exact ⟨by omega, fun v hv => by have := h2 v hv; omega⟩
theorem pick_in (cs : List S34) (fc : List Int) (p : List S49) (r nx : Nat) : (pick cs fc p r nx).length ≤ cs.length ∧ ∀ v ∈ pick cs fc p r nx, 0 ≤ v ∧ v < (cs.length : Int) := by
  obtain ⟨h1, h2⟩ := pickGo_in cs fc p r nx cs.length 0
  refine ⟨h1, ?_⟩
  intro v hv
  have := h2 v hv
  omega
theorem forStep_in {cs : List S34} (fc : List Int) {p : List S49} (r nx : Nat) (hc : cs.length ≤ 5) {i : Nat} (hi : i < 1048576) (hl : p.length ≤ i) (hp : planIn cs.length p) : (forStep cs fc r nx p).length ≤ i + 1 ∧ planIn cs.length (forStep cs fc r nx p) := by
  obtain ⟨h1, h2⟩ := pick_in cs fc p r nx
  unfold forStep
  split
  · refine ⟨by simp only [List.length_append, List.length_cons, List.length_nil]; omega, ⟨by simp only [List.length_append, List.length_cons, List.length_nil]; omega, ?_⟩, ?_⟩
    · intro s hs
      rcases List.mem_append.mp hs with h | h
      · exact hp.1.2 s h
      · rw [List.mem_singleton.mp h]
        dsimp only
        omega
    · intro s hs
      rcases List.mem_append.mp hs with h | h
      · exact hp.2 s h
      · rw [List.mem_singleton.mp h]
        exact h2
  · exact ⟨by omega, hp⟩
theorem forGo_in {cs : List S34} (fc s : List Int) (hc : cs.length ≤ 5) : ∀ (d i : Nat) (p : List S49), i + d ≤ 1048576 → p.length ≤ i → planIn cs.length p → (forGo cs fc s d i p).length ≤ i + d ∧ planIn cs.length (forGo cs fc s d i p)
  | 0, i, p, _, hl, hp => ⟨hl, hp⟩
  | d + 1, i, p, h, hl, hp => by
    obtain ⟨h1, h2⟩ := forStep_in fc (rd s (i : Int)).toNat (nextAt fc s i) hc (show i < 1048576 by omega) hl hp
    obtain ⟨h3, h4⟩ := forGo_in fc s hc d (i + 1) _ (by omega) h1 h2
    simp only [forGo]
    exact ⟨by omega, h4⟩
theorem planIn_nil (n : Nat) : planIn n ([] : List S49) := ⟨⟨by simp, by simp⟩, by simp⟩
theorem forP_in {cs : List S34} (fc s : List Int) (hc : cs.length ≤ 5) (hs : s.length ≤ 1048576) : (forP cs fc s).length ≤ s.length ∧ planIn cs.length (forP cs fc s) := by
  have := forGo_in fc s hc s.length 0 [] (by omega) (by simp) (planIn_nil _)
  simpa [forP] using this

/- The plan for stops, as the program makes it. -/
theorem implFor_l1 (cs : List S34) (fc st : List Int) (x y : Int) (hh : hdOk cs fc st x y = true) (s : List Int) (p : List S49) (r nx : Nat) (hr : r ≤ fc.length) (i : Int) (out : Option (List S49 × Bool)) (B : Nat) (hB : 100 ≤ B)
    (hcont : ∀ k, B ≤ k → (if ((pick cs fc p r nx).length : Int) > 0 then (if p.length < 4398046511104 then impl_Head_planFor.l0 k s (p ++ [(⟨(r : Int), pick cs fc p r nx⟩ : S49)]) s s.length (wrap64 (i + 1)) cs fc st x y else none) else impl_Head_planFor.l0 k s p s s.length (wrap64 (i + 1)) cs fc st x y) = out) :
    ∀ (d k c : Nat) (acc : List Int), c + d = cs.length → B + d < k → acc.length ≤ c → acc ++ pickGo cs fc p r nx d c = pick cs fc p r nx → impl_Head_planFor.l1 k s p r nx s s.length i (wl cs.length (fun c => wearP cs fc p c r)) ((wl cs.length (fun c => wearP cs fc p c r)).length : Int) c cs fc st x y r acc = out := by
  intro d
  have hin := hdOk_in hh
  induction d with
  | zero =>
    intro k c acc hc hk hl ha
    obtain ⟨k, rfl⟩ : ∃ m, k = m + 1 := ⟨k - 1, by omega⟩
    simp only [impl_Head_planFor.l1]
    rw [if_neg (by rw [wl_len]; omega)]
    simp only [pickGo, List.append_nil] at ha
    rw [ha]
    exact hcont k (by omega)
  | succ d ih =>
    intro k c acc hc hk hl ha
    obtain ⟨k, rfl⟩ : ∃ m, k = m + 1 := ⟨k - 1, by omega⟩
    simp only [pickGo] at ha
    simp only [impl_Head_planFor.l1]
    rw [if_pos (by rw [wl_len]; omega), if_pos (by omega), if_pos (by rw [wl_len]; omega), wl_rd _ _ c (by omega), implReach_is k cs fc st x y c r _ (by omega) (by omega) hr (by omega), bind_some_, w64s c (by omega)]
    by_cases h : reachOf cs fc c r (wearP cs fc p c r) < nx
    · rw [if_pos h] at ha
      rw [if_pos (by omega), if_pos (by omega)]
      refine ih k (c + 1) _ (by omega) (by omega) (by simp only [List.length_append, List.length_cons, List.length_nil]; omega) ?_
      rw [List.append_assoc, List.singleton_append]
      exact ha
    · rw [if_neg h] at ha
      rw [if_neg (by omega)]
      exact ih k (c + 1) acc (by omega) (by omega) (by omega) ha
theorem implFor_l0 (wearK : Nat) (hW : wearOk wearK) (cs : List S34) (fc st : List Int) (x y : Int) (hh : hdOk cs fc st x y = true) (s : List Int) (hs : s.length ≤ 1048576) (hz : ∀ j : Nat, j < s.length → 0 ≤ rd s (j : Int) ∧ rd s (j : Int) < fc.length) :
    ∀ (d k i : Nat) (p : List S49), i + d = s.length → wearK + 20000 + 100 * d < k → p.length ≤ i → planIn cs.length p → impl_Head_planFor.l0 k s p s s.length i cs fc st x y = some (forGo cs fc s d i p, (failP cs fc (forGo cs fc s d i p)).isNone) := by
  intro d
  have hin := hdOk_in hh
  induction d with
  | zero =>
    intro k i p hi hk hl hp
    obtain ⟨k, rfl⟩ : ∃ m, k = m + 1 := ⟨k - 1, by omega⟩
    simp only [impl_Head_planFor.l0, forGo]
    rw [if_neg (by omega), implFail_is wearK hW k cs fc st x y hh p hp (by omega), bind_some_]
    cases failP cs fc p with
    | none => simp
    | some q =>
      obtain ⟨c, n⟩ := q
      simp
  | succ d ih =>
    intro k i p hi hk hl hp
    obtain ⟨k, rfl⟩ : ∃ m, k = m + 1 + 1 := ⟨k - 2, by omega⟩
    have g1 : (i : Int) < (s.length : Int) := by omega
    have g2 : (0 : Int) ≤ (i : Int) := by omega
    have g3 : i < 9223372036854775807 := by omega
    have g4 : (0 : Int) ≤ ((i + 1 : Nat) : Int) := by omega
    have hj := hz i (by omega)
    obtain ⟨r, hr⟩ : ∃ r : Nat, rd s (i : Int) = r := ⟨(rd s (i : Int)).toNat, by omega⟩
    rw [hr] at hj
    obtain ⟨h1, h2⟩ := forStep_in fc r (nextAt fc s i) hin.1 (show i < 1048576 by omega) hl hp
    have hgo : ∀ nx : Nat, nx = nextAt fc s i → impl_Head_planFor.j1 (k + 1) s p r nx s s.length i cs fc st x y = some (forGo cs fc s d (i + 1) (forStep cs fc r (nextAt fc s i) p), (failP cs fc (forGo cs fc s d (i + 1) (forStep cs fc r (nextAt fc s i) p))).isNone) := by
      intro nx hnx
      simp only [impl_Head_planFor.j1]
      rw [implWorn_is wearK hW k cs fc st x y hh p hp r (by omega) (by omega), bind_some_]
      refine implFor_l1 cs fc st x y hh s p r nx (by omega) i _ (wearK + 20000 + 100 * d + 10) (by omega) ?_ cs.length k 0 [] (by omega) (by omega) (by simp) rfl
      intro k2 hk2
      rw [w64s i (by omega), hnx]
      have hz2 := ih k2 (i + 1) _ (by omega) (by omega) h1 h2
      unfold forStep at hz2 ⊢
      split
      · rename_i hpos
        rw [if_pos hpos] at hz2
        rw [if_pos (by omega)]
        exact hz2
      · rename_i hpos
        rw [if_neg hpos] at hz2
        exact hz2
    have e1 : wrap64 ((i : Int) + 1) = ((i + 1 : Nat) : Int) := w64s i g3
    simp only [impl_Head_planFor.l0, forGo]
    rw [if_pos g1, if_pos g2, if_pos g1, e1, hr, Int.toNat_natCast]
    by_cases h : ((i + 1 : Nat) : Int) < (s.length : Int)
    · have hj2 := hz (i + 1) (by omega)
      have e2 : rd s ((i + 1 : Nat) : Int) = ((rd s ((i + 1 : Nat) : Int)).toNat : Int) := (Int.toNat_of_nonneg hj2.1).symm
      rw [if_pos h, if_pos g4, e2]
      refine hgo _ ?_
      unfold nextAt
      rw [if_pos h]
    · rw [if_neg h]
      refine hgo _ ?_
      unfold nextAt
      rw [if_neg h]
theorem implFor_is (wearK : Nat) (hW : wearOk wearK) (k : Nat) (cs : List S34) (fc st : List Int) (x y : Int) (hh : hdOk cs fc st x y = true) (s : List Int) (hs : s.length ≤ 1048576) (hz : ∀ j : Nat, j < s.length → 0 ≤ rd s (j : Int) ∧ rd s (j : Int) < fc.length) (hk : wearK + 200000000 ≤ k) : impl_Head_planFor.f k cs fc st x y s = some (forP cs fc s, (failP cs fc (forP cs fc s)).isNone) := by
  unfold impl_Head_planFor.f forP
  exact implFor_l0 wearK hW cs fc st x y hh s hs hz s.length k 0 [] (by omega) (by omega) (by simp) (planIn_nil _)

/- A number is in a list, as the reference asks it. -/
theorem specHas_loop (l : List Int) (n : Int) (hb : l.length ≤ 9223372036854775806) : ∀ (d k i : Nat), i + d = l.length → d < k → spec_l00Has.l0 k l n i = some (decide (n ∈ l.drop i)) := by
  intro d
  induction d with
  | zero =>
    intro k i hi hk
    obtain ⟨k, rfl⟩ : ∃ m, k = m + 1 := ⟨k - 1, by omega⟩
    simp only [spec_l00Has.l0]
    rw [if_neg (by omega), List.drop_of_length_le (by omega)]
    simp
  | succ d ih =>
    intro k i hi hk
    obtain ⟨k, rfl⟩ : ∃ m, k = m + 1 := ⟨k - 1, by omega⟩
    simp only [spec_l00Has.l0]
    rw [if_pos (by omega), if_pos (by omega), w64s i (by omega), ih k (i + 1) (by omega) (by omega), drop_at l i (by omega)]
    by_cases h : rd l i = n
    · rw [if_pos h]; simp [h]
    · rw [if_neg h]
      have h2 : ¬ n = rd l i := fun e => h e.symm
      simp [h2]
theorem specHas_is (k : Nat) (l : List Int) (n : Int) (hb : l.length ≤ 9223372036854775806) (hk : l.length < k) : spec_l00Has.f k l n = some (decide (n ∈ l)) := by
  unfold spec_l00Has.f
  have := specHas_loop l n hb l.length k 0 (by omega) hk
  simpa using this

/- A number lies in a range, as the reference asks it. -/
theorem in_is (a b c : Int) : spec_l00In.f a b c = some (decide (b ≤ a ∧ a ≤ c)) := by
  unfold spec_l00In.f
  by_cases h : b ≤ a <;> simp [h]

/- Numbers in a range that rise, as the reference asks it. -/
theorem specRises_loop (l : List Int) (lo hi : Int) (hb : l.length ≤ 9223372036854775806) : ∀ (d k i : Nat), i + d = l.length → d < k → spec_l00Rises.l0 k l lo hi i = some (upTo (riseOk l lo hi) d i) := by
  intro d
  induction d with
  | zero =>
    intro k i hi' hk
    obtain ⟨k, rfl⟩ : ∃ m, k = m + 1 := ⟨k - 1, by omega⟩
    simp only [spec_l00Rises.l0]
    rw [if_neg (by omega)]
    rfl
  | succ d ih =>
    intro k i hi' hk
    obtain ⟨k, rfl⟩ : ∃ m, k = m + 1 := ⟨k - 1, by omega⟩
    have hz := ih k (i + 1) (by omega) (by omega)
    simp only [spec_l00Rises.l0, in_is, bind_some_, upTo, riseOk]
    rw [if_pos (by omega), if_pos (by omega), w64s i (by omega), hz]
    by_cases h : i = 0
    · rw [if_neg (show ¬ (i : Int) > 0 by omega), ite_tt, decide_eq_true h, Bool.true_or, Bool.and_true]
    · have e : wrap64 ((i : Int) - 1) = ((i - 1 : Nat) : Int) := by rw [w64 _ (by omega) (by omega)]; omega
      rw [if_pos (show (i : Int) > 0 by omega), e, if_pos (show (0 : Int) ≤ ((i - 1 : Nat) : Int) by omega), if_pos (show ((i - 1 : Nat) : Int) < (l.length : Int) by omega), ite_ff, ite_tt, not_ge_dec, decide_eq_false h, Bool.false_or, Bool.and_assoc]
theorem specRises_is (k : Nat) (l : List Int) (lo hi : Int) (hb : l.length ≤ 9223372036854775806) (hk : l.length < k) : spec_l00Rises.f k l lo hi = some (rises l lo hi) := by
  unfold spec_l00Rises.f rises
  exact specRises_loop l lo hi hb l.length k 0 (by omega) hk

/- What the reference asks of a head. -/
theorem specHead_l1 (cs : List S34) (fc st : List Int) (x y : Int) (hb : fc.length ≤ 9223372036854775806) : ∀ (d k i : Nat), i + d = fc.length → d < k → spec_l08Is.l1 k i cs fc st x y = some (impl_areWithin.all 0 100 (fc.drop i) && (decide (0 ≤ x ∧ x ≤ 10000) && decide (0 ≤ y ∧ y ≤ 10000))) := by
  intro d
  induction d with
  | zero =>
    intro k i hi' hk
    obtain ⟨k, rfl⟩ : ∃ m, k = m + 1 := ⟨k - 1, by omega⟩
    simp only [spec_l08Is.l1, in_is, bind_some_]
    rw [if_neg (by omega), List.drop_of_length_le (by omega), ite_tt]
    rfl
  | succ d ih =>
    intro k i hi' hk
    obtain ⟨k, rfl⟩ : ∃ m, k = m + 1 := ⟨k - 1, by omega⟩
    have hz := ih k (i + 1) (by omega) (by omega)
    rw [drop_at fc i (by omega)]
    simp only [spec_l08Is.l1, in_is, bind_some_]
    rw [if_pos (by omega), if_pos (by omega), w64s i (by omega), hz, ite_tt]
    simp only [impl_areWithin.all, List.all_cons, Bool.and_assoc]
theorem specHead_l0 (cs : List S34) (fc st : List Int) (x y : Int) (hc : cs.length ≤ 9223372036854775806) (hb : fc.length ≤ 9223372036854775806) : ∀ (d k i : Nat), i + d = cs.length → d + fc.length + 1 < k → spec_l08Is.l0 k i cs fc st x y = some (upTo (cuOk cs) d i && (impl_areWithin.all 0 100 fc && (decide (0 ≤ x ∧ x ≤ 10000) && decide (0 ≤ y ∧ y ≤ 10000)))) := by
  intro d
  induction d with
  | zero =>
    intro k i hi' hk
    obtain ⟨k, rfl⟩ : ∃ m, k = m + 1 := ⟨k - 1, by omega⟩
    have h1 := specHead_l1 cs fc st x y hb fc.length k 0 (by omega) (by omega)
    rw [List.drop_zero] at h1
    simp only [spec_l08Is.l0]
    rw [if_neg (by omega)]
    exact h1
  | succ d ih =>
    intro k i hi' hk
    obtain ⟨k, rfl⟩ : ∃ m, k = m + 1 := ⟨k - 1, by omega⟩
    have hz := ih k (i + 1) (by omega) (by omega)
    simp only [spec_l08Is.l0, in_is, bind_some_]
    rw [if_pos (by omega), if_pos (by omega), w64s i (by omega), hz, ite_tt, ite_tt]
    simp only [upTo, cuOk, Bool.and_assoc]
theorem specIs_is (k : Nat) (cs : List S34) (fc st : List Int) (x y : Int) (hc : cs.length ≤ 1048576) (hb : fc.length ≤ 1048576) (hs : st.length ≤ 1048576) (hk : cs.length + fc.length + st.length + 3 < k) : spec_l08Is.f k cs fc st x y = some (hdOk cs fc st x y) := by
  obtain ⟨k, rfl⟩ : ∃ m, k = m + 1 := ⟨k - 1, by omega⟩
  have h0 := specHead_l0 cs fc st x y (by omega) (by omega) cs.length k 0 (by omega) (by omega)
  rw [show ((0 : Nat) : Int) = 0 by rfl] at h0
  unfold spec_l08Is.f hdOk
  rw [in_is, bind_some_, specRises_is (k + 1) st _ _ (by omega) (by omega), bind_some_]
  simp only [spec_l08Is.j0, h0, if_true]
  generalize upTo (cuOk cs) cs.length 0 = b1
  generalize impl_areWithin.all 0 100 fc = b2
  generalize rises st 0 (wrap64 ((fc.length : Int) - 1)) = b3
  by_cases h1 : (1 ≤ (cs.length : Int) ∧ (cs.length : Int) ≤ 5)
  · by_cases h2 : (fc.length : Int) > 60
    · rw [if_pos (decide_eq_true h1), if_pos h2, decide_eq_false (show ¬ (fc.length : Int) ≤ 60 by omega)]
      simp
    · rw [if_pos (decide_eq_true h1), if_neg h2, decide_eq_true (show (fc.length : Int) ≤ 60 by omega), decide_eq_true h1]
      by_cases h3 : (st.length : Int) > 8
      · rw [if_pos h3, decide_eq_false (show ¬ (st.length : Int) ≤ 8 by omega)]
        simp
      · rw [if_neg h3, decide_eq_true (show (st.length : Int) ≤ 8 by omega)]
        cases b3 <;> simp
  · rw [if_neg (by simpa using h1), decide_eq_false h1]
    simp

/- How far a cutter lasts, as the reference reckons it. -/
theorem specReach_l0 (cs : List S34) (fc st : List Int) (x y : Int) (a : Nat) (ha : a < cs.length) (hb : fc.length ≤ 9223372036854775806) (b : Int) : ∀ (d k i : Nat) (s : Int), i + d = fc.length → d < k → spec_l08Range.l0 k a b s i cs fc st x y = some (wrap64 ((reachGo (rd_T34 cs (a : Int)).f0 (rd_T34 cs (a : Int)).f1 fc d i s : Nat) - b)) := by
  intro d
  induction d with
  | zero =>
    intro k i s hi hk
    obtain ⟨k, rfl⟩ : ∃ m, k = m + 1 := ⟨k - 1, by omega⟩
    simp only [spec_l08Range.l0, reachGo]
    rw [if_neg (by omega)]
  | succ d ih =>
    intro k i s hi hk
    obtain ⟨k, rfl⟩ : ∃ m, k = m + 1 := ⟨k - 1, by omega⟩
    simp only [spec_l08Range.l0, reachGo]
    rw [if_pos (by omega), if_pos (by omega), if_pos (by omega), if_pos (by omega), w64s i (by omega), ih k (i + 1) _ (by omega) (by omega)]
    split <;> rfl
theorem specReach_is (k : Nat) (cs : List S34) (fc st : List Int) (x y : Int) (a b : Nat) (s : Int) (ha : a < cs.length) (hb : fc.length ≤ 9223372036854775806) (hbl : b ≤ fc.length) (hk : fc.length < k) : spec_l08Range.f k cs fc st x y a b s = some (wrap64 ((reachOf cs fc a b s : Nat) - (b : Int))) := by
  unfold spec_l08Range.f reachOf
  exact specReach_l0 cs fc st x y a ha hb b (fc.length - b) k b s (by omega) (by omega)

/- How worn the cutters are, as the reference reckons it. -/
theorem specChanges_l0 (p : List S49) (c n : Int) (hp : shortS p) : ∀ (d k i : Nat), i + d = p.length → d + 1048577 < k → spec_l08Changes.l0 k p c n i = some (chg (p.drop i) c n) := by
  intro d
  have hb := hp.1
  induction d with
  | zero =>
    intro k i hi hk
    obtain ⟨k, rfl⟩ : ∃ m, k = m + 1 := ⟨k - 1, by omega⟩
    simp only [spec_l08Changes.l0]
    rw [if_neg (by omega), List.drop_of_length_le (by omega)]
    rfl
  | succ d ih =>
    intro k i hi hk
    obtain ⟨k, rfl⟩ : ∃ m, k = m + 1 := ⟨k - 1, by omega⟩
    have hlt : i < p.length := by omega
    have hs := shortS_at hp i hlt
    have hd : p.drop i = rd_T49 p (i : Int) :: p.drop (i + 1) := by rw [rdStop_at p i hlt, List.drop_eq_getElem_cons hlt]
    have hz := ih k (i + 1) (by omega) (by omega)
    simp only [spec_l08Changes.l0]
    rw [if_pos (by omega), if_pos (by omega), specHas_is k _ _ (by omega) (by omega), bind_some_, w64s i (by omega), hz, hd]
    simp only [chg, List.any_cons]
    by_cases h1 : (rd_T49 p (i : Int)).f0 = n
    · rw [if_pos h1]
      by_cases h2 : c ∈ (rd_T49 p (i : Int)).f1
      · simp [h1, h2]
      · simp [h2]
    · rw [if_neg h1]
      simp [h1]
theorem specChanges_is (k : Nat) (p : List S49) (c n : Int) (hp : shortS p) (hk : p.length + 1048577 < k) : spec_l08Changes.f k p c n = some (chg p c n) := by
  unfold spec_l08Changes.f
  have := specChanges_l0 p c n hp p.length k 0 (by omega) hk
  simpa using this
theorem specWorn_l0 (cs : List S34) (fc st : List Int) (x y : Int) (hh : hdOk cs fc st x y = true) (p : List S49) (hp : shortS p) (c R : Nat) (hc : c < cs.length) (hR : R ≤ fc.length) : ∀ (e k n : Nat), n + e = R → e + 3000000 < k → spec_l08Worn.l0 k p c R (wearIn cs fc p c n) n cs fc st x y = some (wearP cs fc p c R) := by
  intro e
  have hin := hdOk_in hh
  have hb := hp.1
  induction e with
  | zero =>
    intro k n hn hk
    have hn2 : n = R := by omega
    subst hn2
    obtain ⟨k, rfl⟩ : ∃ m, k = m + 1 + 1 := ⟨k - 2, by omega⟩
    simp only [spec_l08Worn.l0]
    rw [if_pos (Int.le_refl _), specChanges_is _ p _ _ hp (by omega), bind_some_, w64s n (by omega), wearP_eq]
    have h1 : ¬ ((n + 1 : Nat) : Int) ≤ (n : Int) := by omega
    simp only [if_neg h1, if_neg (show ¬ (n : Int) < (n : Int) by omega)]
    split <;> rfl
  | succ e ih =>
    intro k n hn hk
    obtain ⟨k, rfl⟩ : ∃ m, k = m + 1 := ⟨k - 1, by omega⟩
    have b1 := wearP_in p hh c hc n (by omega)
    have b2 := step_in hh c n hc (by omega)
    have e1 : wrap64 ((rd_T34 cs (c : Int)).f0 * rd fc (n : Int)) = wearStep cs fc c n := by
      unfold wearStep at b2 ⊢
      rw [w64 _ (by omega) (by omega)]
    have hz := ih k (n + 1) (by omega) (by omega)
    have e2 : wearIn cs fc p c (n + 1) = wearP cs fc p c n + wearStep cs fc c n := rfl
    rw [e2] at hz
    have e3 := wearP_eq cs fc p c n
    simp only [spec_l08Worn.l0]
    rw [if_pos (by omega), specChanges_is _ p _ _ hp (by omega), bind_some_, w64s n (by omega), e1]
    by_cases h : chg p c (n : Int) = true
    · rw [if_pos h] at e3
      rw [if_pos h, if_pos (by omega), if_pos (by omega), if_pos (by omega), if_pos (by omega), if_pos (by omega), w64 (0 + wearStep cs fc c n) (by omega) (by omega)]
      rw [e3] at hz
      exact hz
    · rw [if_neg h] at e3
      rw [if_neg h, if_pos (by omega), if_pos (by omega), if_pos (by omega), if_pos (by omega), if_pos (by omega), ← e3, w64 (wearP cs fc p c n + wearStep cs fc c n) (by omega) (by omega)]
      exact hz
theorem specWorn_is (k : Nat) (cs : List S34) (fc st : List Int) (x y : Int) (hh : hdOk cs fc st x y = true) (p : List S49) (hp : shortS p) (c R : Nat) (hc : c < cs.length) (hR : R ≤ fc.length) (hk : 4000000 ≤ k) : spec_l08Worn.f k cs fc st x y p c R = some (wearP cs fc p c R) := by
  have hin := hdOk_in hh
  unfold spec_l08Worn.f
  exact specWorn_l0 cs fc st x y hh p hp c R hc hR R k 0 (by omega) (by omega)
theorem specFail_l1 (cs : List S34) (fc st : List Int) (x y : Int) (hh : hdOk cs fc st x y = true) (p : List S49) (hp : shortS p) (n : Nat) (hn : n < fc.length) (out : Option (Int × Int × Bool)) (B : Nat) (hB : 5000000 ≤ B)
    (hcont : failC cs fc p n cs.length 0 = none → ∀ k, B ≤ k → spec_l08Failure.l0 k p ((n + 1 : Nat) : Int) cs fc st x y = out) (hfound : ∀ c, failC cs fc p n cs.length 0 = some c → out = some ((c : Int), (n : Int), true)) : ∀ (d k j : Nat), j + d = cs.length → B + d < k → failC cs fc p n d j = failC cs fc p n cs.length 0 → spec_l08Failure.l1 k p n j cs fc st x y = out := by
  intro d
  have hin := hdOk_in hh
  induction d with
  | zero =>
    intro k j hj hk he
    obtain ⟨k, rfl⟩ : ∃ m, k = m + 1 := ⟨k - 1, by omega⟩
    simp only [spec_l08Failure.l1]
    rw [if_neg (by omega), w64s n (by omega)]
    exact hcont (by rw [← he]; rfl) k (by omega)
  | succ d ih =>
    intro k j hj hk he
    obtain ⟨k, rfl⟩ : ∃ m, k = m + 1 := ⟨k - 1, by omega⟩
    have h1 := wearP_in p hh j (by omega) n (by omega)
    have h2 := step_in hh j n (by omega) hn
    have e1 : wrap64 ((rd_T34 cs (j : Int)).f0 * rd fc (n : Int)) = wearStep cs fc j n := by
      unfold wearStep at h2 ⊢
      rw [w64 _ (by omega) (by omega)]
    simp only [spec_l08Failure.l1]
    rw [if_pos (by omega), specWorn_is k cs fc st x y hh p hp j n (by omega) (by omega) (by omega), bind_some_, if_pos (by omega), if_pos (by omega), if_pos (by omega), e1, w64 (wearP cs fc p j n + wearStep cs fc j n) (by omega) (by omega), w64s j (by omega)]
    simp only [failC] at he
    by_cases h3 : wearP cs fc p j n + wearStep cs fc j n > (rd_T34 cs (j : Int)).f1
    · rw [if_pos h3] at he ⊢
      exact (hfound j he.symm).symm
    · rw [if_neg h3] at he ⊢
      exact ih k (j + 1) (by omega) (by omega) he
theorem specFail_l0 (cs : List S34) (fc st : List Int) (x y : Int) (hh : hdOk cs fc st x y = true) (p : List S49) (hp : shortS p) : ∀ (d k n : Nat), n + d = fc.length → 5000000 + 100 * d < k → spec_l08Failure.l0 k p n cs fc st x y = some (match failN cs fc p d n with | some (c, n) => ((c : Int), (n : Int), true) | none => (0, 0, false)) := by
  intro d
  have hin := hdOk_in hh
  induction d with
  | zero =>
    intro k n hn hk
    obtain ⟨k, rfl⟩ : ∃ m, k = m + 1 := ⟨k - 1, by omega⟩
    simp only [spec_l08Failure.l0, failN]
    rw [if_neg (by omega)]
  | succ d ih =>
    intro k n hn hk
    obtain ⟨k, rfl⟩ : ∃ m, k = m + 1 := ⟨k - 1, by omega⟩
    simp only [spec_l08Failure.l0, failN]
    rw [if_pos (by omega)]
    refine specFail_l1 cs fc st x y hh p hp n (by omega) _ (5000000 + 100 * d + 1) (by omega) ?_ ?_ cs.length k 0 (by omega) (by omega) rfl
    · intro h1 k2 hk2
      rw [h1]
      exact ih k2 (n + 1) (by omega) (by omega)
    · intro c hc
      rw [hc]
theorem specFail_is (k : Nat) (cs : List S34) (fc st : List Int) (x y : Int) (hh : hdOk cs fc st x y = true) (p : List S49) (hp : shortS p) (hk : 6000000 ≤ k) : spec_l08Failure.f k cs fc st x y p = some (match failP cs fc p with | some (c, n) => ((c : Int), (n : Int), true) | none => (0, 0, false)) := by
  have hin := hdOk_in hh
  unfold spec_l08Failure.f failP
  exact specFail_l0 cs fc st x y hh p hp fc.length k 0 (by omega) (by omega)

/- The plan for stops, as the reference makes it. -/
theorem specFor_l1 (cs : List S34) (fc st : List Int) (x y : Int) (hh : hdOk cs fc st x y = true) (s : List Int) (p : List S49) (hp : shortS p) (i r nx : Nat) (hi : i < s.length) (hsr : rd s (i : Int) = r) (hr : r ≤ fc.length) (out : Option (List S49)) (B : Nat) (hB : 5000000 ≤ B)
    (hcont : ∀ k, B ≤ k → (if ((pick cs fc p r nx).length : Int) > 0 then (if p.length < 4398046511104 then spec_l08For.l0 k s (p ++ [(⟨(r : Int), pick cs fc p r nx⟩ : S49)]) (wrap64 ((i : Int) + 1)) cs fc st x y else none) else spec_l08For.l0 k s p (wrap64 ((i : Int) + 1)) cs fc st x y) = out) :
    ∀ (d k c : Nat) (acc : List Int), c + d = cs.length → B + d < k → acc.length ≤ c → acc ++ pickGo cs fc p r nx d c = pick cs fc p r nx → spec_l08For.l1 k s p i nx acc c cs fc st x y = out := by
  intro d
  have hin := hdOk_in hh
  induction d with
  | zero =>
    intro k c acc hc hk hl ha
    obtain ⟨k, rfl⟩ : ∃ m, k = m + 1 := ⟨k - 1, by omega⟩
    simp only [spec_l08For.l1]
    rw [if_neg (by omega), if_pos (show (0 : Int) ≤ (i : Int) by omega), if_pos (show (i : Int) < (s.length : Int) by omega), hsr]
    simp only [pickGo, List.append_nil] at ha
    rw [ha]
    exact hcont k (by omega)
  | succ d ih =>
    intro k c acc hc hk hl ha
    obtain ⟨k, rfl⟩ : ∃ m, k = m + 1 := ⟨k - 1, by omega⟩
    have hre := reachOf_in cs fc c r (wearP cs fc p c r) hr
    have e1 : wrap64 ((r : Int) + wrap64 ((reachOf cs fc c r (wearP cs fc p c r) : Nat) - (r : Int))) = ((reachOf cs fc c r (wearP cs fc p c r) : Nat) : Int) := by
      rw [w64 ((reachOf cs fc c r (wearP cs fc p c r) : Nat) - (r : Int)) (by omega) (by omega), w64 _ (by omega) (by omega)]
      omega
    simp only [pickGo] at ha
    simp only [spec_l08For.l1]
    rw [if_pos (by omega), if_pos (show (0 : Int) ≤ (i : Int) by omega), if_pos (show (i : Int) < (s.length : Int) by omega), hsr, specWorn_is k cs fc st x y hh p hp c r (by omega) hr (by omega), bind_some_, specReach_is k cs fc st x y c r _ (by omega) (by omega) hr (by omega), bind_some_, e1, w64s c (by omega)]
    by_cases h : reachOf cs fc c r (wearP cs fc p c r) < nx
    · rw [if_pos h] at ha
      rw [if_pos (by omega), if_pos (by omega)]
      refine ih k (c + 1) _ (by omega) (by omega) (by simp only [List.length_append, List.length_cons, List.length_nil]; omega) ?_
      rw [List.append_assoc, List.singleton_append]
      exact ha
    · rw [if_neg h] at ha
      rw [if_neg (by omega)]
      exact ih k (c + 1) acc (by omega) (by omega) (by omega) ha
theorem specFor_l0 (cs : List S34) (fc st : List Int) (x y : Int) (hh : hdOk cs fc st x y = true) (s : List Int) (hs : s.length ≤ 1048576) (hz : ∀ j : Nat, j < s.length → 0 ≤ rd s (j : Int) ∧ rd s (j : Int) < fc.length) :
    ∀ (d k i : Nat) (p : List S49), i + d = s.length → 6000000 + 100 * d < k → p.length ≤ i → planIn cs.length p → spec_l08For.l0 k s p i cs fc st x y = some (forGo cs fc s d i p) := by
  intro d
  have hin := hdOk_in hh
  induction d with
  | zero =>
    intro k i p hi hk hl hp
    obtain ⟨k, rfl⟩ : ∃ m, k = m + 1 := ⟨k - 1, by omega⟩
    simp only [spec_l08For.l0, forGo]
    rw [if_neg (by omega)]
  | succ d ih =>
    intro k i p hi hk hl hp
    obtain ⟨k, rfl⟩ : ∃ m, k = m + 1 + 1 := ⟨k - 2, by omega⟩
    have g1 : (i : Int) < (s.length : Int) := by omega
    have g2 : (0 : Int) ≤ (i : Int) := by omega
    have g3 : i < 9223372036854775807 := by omega
    have g4 : (0 : Int) ≤ ((i + 1 : Nat) : Int) := by omega
    have hj := hz i (by omega)
    obtain ⟨r, hr⟩ : ∃ r : Nat, rd s (i : Int) = r := ⟨(rd s (i : Int)).toNat, by omega⟩
    rw [hr] at hj
    obtain ⟨h1, h2⟩ := forStep_in fc r (nextAt fc s i) hin.1 (show i < 1048576 by omega) hl hp
    have hgo : ∀ nx : Nat, nx = nextAt fc s i → spec_l08For.j1 (k + 1) s p i nx cs fc st x y = some (forGo cs fc s d (i + 1) (forStep cs fc r (nextAt fc s i) p)) := by
      intro nx hnx
      simp only [spec_l08For.j1]
      refine specFor_l1 cs fc st x y hh s p hp.1 i r nx (by omega) hr (by omega) _ (6000000 + 100 * d + 10) (by omega) ?_ cs.length k 0 [] (by omega) (by omega) (by simp) rfl
      intro k2 hk2
      rw [w64s i (by omega), hnx]
      have hz2 := ih k2 (i + 1) _ (by omega) (by omega) h1 h2
      unfold forStep at hz2 ⊢
      split
      · rename_i hpos
        rw [if_pos hpos] at hz2
        rw [if_pos (by omega)]
        exact hz2
      · rename_i hpos
        rw [if_neg hpos] at hz2
        exact hz2
    have e1 : wrap64 ((i : Int) + 1) = ((i + 1 : Nat) : Int) := w64s i g3
    simp only [spec_l08For.l0, forGo]
    rw [if_pos g1, e1, hr, Int.toNat_natCast]
    by_cases h : ((i + 1 : Nat) : Int) < (s.length : Int)
    · have hj2 := hz (i + 1) (by omega)
      have e2 : rd s ((i + 1 : Nat) : Int) = ((rd s ((i + 1 : Nat) : Int)).toNat : Int) := (Int.toNat_of_nonneg hj2.1).symm
      rw [if_pos h, if_pos g4, e2]
      refine hgo _ ?_
      unfold nextAt
      rw [if_pos h]
    · rw [if_neg h]
      refine hgo _ ?_
      unfold nextAt
      rw [if_neg h]
theorem specFor_is (k : Nat) (cs : List S34) (fc st : List Int) (x y : Int) (hh : hdOk cs fc st x y = true) (s : List Int) (hs : s.length ≤ 1048576) (hz : ∀ j : Nat, j < s.length → 0 ≤ rd s (j : Int) ∧ rd s (j : Int) < fc.length) (hk : 200000000 ≤ k) : spec_l08For.f k cs fc st x y s = some (forP cs fc s) := by
  unfold spec_l08For.f forP
  exact specFor_l0 cs fc st x y hh s hs hz s.length k 0 [] (by omega) (by omega) (by simp) (planIn_nil _)
theorem specEnough_is (k : Nat) (cs : List S34) (fc st : List Int) (x y : Int) (hh : hdOk cs fc st x y = true) (p : List S49) (hp : shortS p) (hk : 6000000 ≤ k) : spec_l08Enough.f k cs fc st x y p = some (failP cs fc p).isNone := by
  unfold spec_l08Enough.f
  rw [specFail_is k cs fc st x y hh p hp (by omega), bind_some_]
  cases failP cs fc p with
  | none => rfl
  | some q => obtain ⟨c, n⟩ := q; rfl



mutual
def spec_PlanFor.j0 : Nat → List Int → Bool → List (S34) → List Int → List Int → Int → Int → Option ((List (S49)) × Bool)
 | 0, _, _, _, _, _, _, _ => none
 | k + 1, x1, x18, x661000, x661001, x661002, x661003, x661004 => if x18 = true then (some (([] : List (S49)), false)) else (spec_PlanFor.l0 k x1 0 x661000 x661001 x661002 x661003 x661004)
def spec_PlanFor.l0 : Nat → List Int → Int → List (S34) → List Int → List Int → Int → Int → Option ((List (S49)) × Bool)
 | 0, _, _, _, _, _, _, _ => none
 | k + 1, x1, x6, x661000, x661001, x661002, x661003, x661004 => if x6 < (x1.length : Int) then (if 0 ≤ x6 then ((spec_l00Has.f k x661002 (rd x1 x6)).bind fun t664 => (if t664 = true then (spec_PlanFor.l0 k x1 (wrap64 (x6 + 1)) x661000 x661001 x661002 x661003 x661004) else (some (([] : List (S49)), false)))) else (none)) else ((spec_l08For.f k x661000 x661001 x661002 x661003 x661004 x1).bind fun t665 => ((spec_l08Enough.f k x661000 x661001 x661002 x661003 x661004 t665).bind fun t668 => (if t668 = true then (some (t665, true)) else (some (([] : List (S49)), false)))))
end
/- The plan for stops, as both sides answer. -/
theorem rises_rd {l : List Int} {lo hi : Int} (h : rises l lo hi = true) : ∀ j : Nat, j < l.length → lo ≤ rd l (j : Int) ∧ rd l (j : Int) ≤ hi := by
  intro j hj
  rw [rd_at l j hj]
  exact rises_mem h _ (List.getElem_mem hj)
theorem stops_in {cs : List S34} {fc st : List Int} {x y : Int} (hh : hdOk cs fc st x y = true) {s : List Int} (h : rises s 0 (wrap64 ((fc.length : Int) - 1)) = true) : ∀ j : Nat, j < s.length → 0 ≤ rd s (j : Int) ∧ rd s (j : Int) < fc.length := by
  intro j hj
  have hin := hdOk_in hh
  have := rises_rd h j hj
  rw [w64 _ (by omega) (by omega)] at this
  omega
/- The safe rings whose bits are set. -/
def bitB (m i : Nat) : Bool := decide (m / 2 ^ i % 2 = 1)
theorem bit_is (m i : Nat) (hm : m < 256) (hi : i ≤ 8) : Go.bits .and .i64 (shr .i64 (m : Int) (i : Int)) 1 = ((m / 2 ^ i % 2 : Nat) : Int) := by
  have e : shr .i64 (m : Int) (i : Int) = ((m / 2 ^ i : Nat) : Int) := by
    unfold shr
    rw [Int.toNat_natCast, show min i IntKind.i64.bits = i from Nat.min_eq_left (by show i ≤ 64; omega)]
    simp
  have hlt : m / 2 ^ i < 256 := Nat.lt_of_le_of_lt (Nat.div_le_self _ _) hm
  have hw : ∀ n : Int, 0 ≤ n → n < 2 ^ 8 → IntKind.i64.wrap n = n := by
    intro n h0 h1
    rw [IntKind.wrap_i64]
    omega
  rw [e]
  have hlt2 : ((m / 2 ^ i : Nat) : Int) < 256 := Int.ofNat_lt.mpr hlt
  have := bits_mask .i64 8 (by decide) hw 1 (by decide) ((m / 2 ^ i : Nat) : Int) (Int.natCast_nonneg _) hlt2
  simpa using this
theorem bit_if {α : Type} (m i : Nat) (hm : m < 256) (hi : i ≤ 8) (a b : α) : (if (Go.bits .and .i64 (shr .i64 (m : Int) (i : Int)) 1) = 1 then a else b) = if bitB m i = true then a else b := by
  rw [bit_is m i hm hi]
  unfold bitB
  by_cases h : m / 2 ^ i % 2 = 1
  · rw [if_pos (by omega), if_pos (decide_eq_true h)]
  · rw [if_neg (by omega), if_neg (by simpa using h)]
theorem u64w (i : Nat) (h : i < 1000) : IntKind.u64.wrap (i : Int) = (i : Int) := by
  simp [IntKind.wrap, IntKind.bits, IntKind.signed]
  omega
theorem shl_is (n : Nat) (h : n ≤ 8) : shl .i64 1 (n : Int) = ((2 ^ n : Nat) : Int) := by
  have : n = 0 ∨ n = 1 ∨ n = 2 ∨ n = 3 ∨ n = 4 ∨ n = 5 ∨ n = 6 ∨ n = 7 ∨ n = 8 := by omega
  rcases this with e | e | e | e | e | e | e | e | e <;> subst e <;> decide
def someGo (st : List Int) (m : Nat) : Nat → Nat → List Int
  | 0, _ => []
  | d + 1, i => if bitB m i = true then rd st (i : Int) :: someGo st m d (i + 1) else someGo st m d (i + 1)
def someOf (st : List Int) (m : Nat) : List Int := someGo st m st.length 0
theorem someGo_in (st : List Int) (m : Nat) : ∀ d i : Nat, i + d = st.length → (someGo st m d i).length ≤ d ∧ ∀ v ∈ someGo st m d i, v ∈ st
  | 0, i, _ => by simp [someGo]
  | d + 1, i, h => by
    obtain ⟨h1, h2⟩ := someGo_in st m d (i + 1) (by omega)
    simp only [someGo]
    split
    · refine ⟨by simp only [List.length_cons]; omega, ?_⟩
      intro v hv
      rcases List.mem_cons.mp hv with e | e
      · rw [e, rd_at st i (by omega)]
        exact List.getElem_mem _
      · exact h2 v e
    · exact ⟨by omega, h2⟩
theorem someOf_in (st : List Int) (m : Nat) : (someOf st m).length ≤ st.length ∧ ∀ v ∈ someOf st m, v ∈ st := someGo_in st m st.length 0 (by omega)
theorem someOf_rd {cs : List S34} {fc st : List Int} {x y : Int} (hh : hdOk cs fc st x y = true) (m : Nat) : ∀ j : Nat, j < (someOf st m).length → 0 ≤ rd (someOf st m) (j : Int) ∧ rd (someOf st m) (j : Int) < fc.length := by
  intro j hj
  have hr : rises st 0 (wrap64 ((fc.length : Int) - 1)) = true := by
    unfold hdOk at hh
    simp only [Bool.and_eq_true] at hh
    exact hh.2.2.2.1
  have hm := (someOf_in st m).2 _ (List.getElem_mem hj)
  obtain ⟨i, hi, e⟩ := List.getElem_of_mem hm
  have := stops_in hh hr i hi
  rw [rd_at st i hi, e] at this
  rw [rd_at _ j hj]
  exact this
def lessGo (a b : List Int) : Nat → Nat → Bool
  | 0, _ => decide (a.length < b.length)
  | d + 1, i => if i < b.length then (if rd a (i : Int) = rd b (i : Int) then lessGo a b d (i + 1) else decide (rd a (i : Int) < rd b (i : Int))) else false
def lessL (a b : List Int) : Bool := lessGo a b a.length 0
theorem implLess_l0 (a b : List Int) (ha : a.length ≤ 1048576) : ∀ (d k i : Nat), i + d = a.length → d < k → ∃ r, slices_Compare_int64_int64.l0 k a b a a.length i = some r ∧ decide (r < 0) = lessGo a b d i := by
  intro d
  induction d with
  | zero =>
    intro k i hi hk
    obtain ⟨k, rfl⟩ : ∃ m, k = m + 1 := ⟨k - 1, by omega⟩
    simp only [slices_Compare_int64_int64.l0, lessGo]
    rw [if_neg (by omega)]
    by_cases h : (a.length : Int) < (b.length : Int)
    · rw [if_pos h]
      exact ⟨_, rfl, by rw [decide_eq_true (show a.length < b.length by omega)]; rfl⟩
    · rw [if_neg h]
      exact ⟨_, rfl, by rw [decide_eq_false (show ¬ a.length < b.length by omega)]; rfl⟩
  | succ d ih =>
    intro k i hi hk
    obtain ⟨k, rfl⟩ : ∃ m, k = m + 1 := ⟨k - 1, by omega⟩
    simp only [slices_Compare_int64_int64.l0, lessGo]
    rw [if_pos (by omega), if_pos (by omega), if_pos (by omega)]
    by_cases h : (i : Int) ≥ (b.length : Int)
    · rw [if_pos h, if_neg (by omega)]
      exact ⟨1, rfl, rfl⟩
    · rw [if_neg h, if_pos (by omega), if_pos (show i < b.length by omega), w64s i (by omega)]
      simp only [cmp_Compare_int64.f, cmp_isNaN_int64.f, bne_self_eq_false, bind_some_]
      rw [if_neg (by simp), if_neg (by simp)]
      by_cases c1 : rd a (i : Int) < rd b (i : Int)
      · rw [if_pos c1, bind_some_, if_neg (by omega), if_neg (by omega), decide_eq_true c1]
        exact ⟨_, rfl, rfl⟩
      · rw [if_neg c1]
        by_cases c2 : rd a (i : Int) > rd b (i : Int)
        · rw [if_pos c2, bind_some_, if_neg (by omega), if_neg (by omega), decide_eq_false c1]
          exact ⟨_, rfl, rfl⟩
        · rw [if_neg c2, bind_some_, if_pos rfl, if_pos (by omega)]
          exact ih k (i + 1) (by omega) (by omega)
theorem specLess_l0 (a b : List Int) (ha : a.length ≤ 1048576) : ∀ (d k i : Nat), i + d = a.length → 2 * d + 2 < k → spec_l08Less.l0 k a b i = some (lessGo a b d i) := by
  intro d
  induction d with
  | zero =>
    intro k i hi hk
    obtain ⟨k, rfl⟩ : ∃ m, k = m + 1 + 1 := ⟨k - 2, by omega⟩
    simp only [spec_l08Less.l0, spec_l08Less.j1, lessGo]
    rw [if_neg (by omega), if_neg (by simp)]
    simp
  | succ d ih =>
    intro k i hi hk
    obtain ⟨k, rfl⟩ : ∃ m, k = m + 1 + 1 := ⟨k - 2, by omega⟩
    simp only [spec_l08Less.l0, spec_l08Less.j1, lessGo]
    rw [if_pos (show (i : Int) < (a.length : Int) by omega)]
    by_cases h : (i : Int) < (b.length : Int)
    · rw [if_pos (decide_eq_true h), if_pos (by omega), if_pos (show (i : Int) < (a.length : Int) by omega), if_pos h, if_pos (show i < b.length by omega), w64s i (by omega)]
      by_cases c : rd a (i : Int) = rd b (i : Int)
      · rw [if_pos c, if_pos c]
        exact ih k (i + 1) (by omega) (by omega)
      · rw [if_neg c, if_neg c]
    · rw [if_neg (by simpa using h), if_neg (show ¬ i < b.length by omega)]
      congr 1
      exact decide_eq_false (by omega)

end Go.Proofs.Ytfcadpkhmkjibaa.P
