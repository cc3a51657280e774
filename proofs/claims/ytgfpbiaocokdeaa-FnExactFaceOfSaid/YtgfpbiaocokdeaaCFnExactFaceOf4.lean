/- What the claim of FnExactFaceOf bears, part 4: functions of the program as plain Lean functions, with proofs that the code comes to their answers, and lemmas on them. -/
import Derived.Test.YtgfpbiaocokdeaaCFnExactFaceOf0
import Derived.Test.YtgfpbiaocokdeaaCFnExactFaceOf3
import Derived.Test.YtgfpbiaocokdeaaCFnExactFaceOf2
import Derived.Test.YtgfpbiaocokdeaaCFnExactFaceOf1
set_option linter.unusedVariables false
set_option linter.unusedSimpArgs false
namespace Go.Proofs.Ytgfpbiaocokdeaa.P
open Go.RowKit Go.Proofs.YtgfpbiaocokdeaaW.PrintWords Go.Proofs.YtgfpbiaocokdeaaW.PrintLast Go.Proofs.YtgfpbiaocokdeaaW.PrintMore
attribute [local go_sem] max2_int min2_int max_two min_two max_three min_three max_four min_four   -- for this text's walks alone

def impl_Ground_face.l0 : Nat → Int → Int → List Int → List Int → Int → Int → List Int → List (S59) → Option (List Int)
 | 0, _, _, _, _, _, _, _, _ => none
 | k + 1, x1, x2, x7, x16, x17, x18, x256000, x256001 => if x18 < x17 then (if 0 ≤ x18 then (if x18 < (x16.length : Int) then ((impl_Ground_class.f k x256000 x256001 x1 (wrap64 (x2 + (wrap64 (300 * (wrap64 ((wrap64 (2 * x18)) - 9))))))).bind fun t263 => (if t263 < 0 then (if 0 ≤ (x256000.length : Int) then (if (x256000.length : Int) < (x7.length : Int) then (impl_Ground_face.l0 k x1 x2 (x7.set ((x256000.length : Int) : Int).toNat (wrap64 ((rd x7 (x256000.length : Int)) + (rd x16 x18)))) x16 x17 (wrap64 (x18 + 1)) x256000 x256001) else (none)) else (none)) else (if 0 ≤ t263 then (if t263 < (x7.length : Int) then (impl_Ground_face.l0 k x1 x2 (x7.set (t263 : Int).toNat (wrap64 ((rd x7 t263) + (rd x16 x18)))) x16 x17 (wrap64 (x18 + 1)) x256000 x256001) else (none)) else (none)))) else (none)) else (none)) else (some x7)
def impl_Ground_face.f (k : Nat) (l0_0 : List Int) (l0_1 : List (S59)) (a1 : Int) (a2 : Int) : Option (List Int) := if 0 ≤ (wrap64 ((l0_0.length : Int) + 1)) then (if (wrap64 ((l0_0.length : Int) + 1) : Int).toNat ≤ 35184372088832 then ((some (([52, 90, 111, 122, 125, 125, 122, 111, 90, 52] : List Int) : List Int)).bind fun y259 => (impl_Ground_face.l0 k a1 a2 (List.replicate (wrap64 ((l0_0.length : Int) + 1) : Int).toNat 0) y259 (y259.length : Int) 0 l0_0 l0_1)) else (none)) else (none)
set_option maxHeartbeats 8000000 in
set_option maxRecDepth 100000 in
theorem impl_Ground_face.calls (k : Nat) (A0_0 : Option Addr) (c0_0 : Nat) (l0_0 : List Int) (A0_1 : Option Addr) (c0_1 : Nat) (l0_1 : List (S59)) (a1 : Int) (a2 : Int) (r : List Int) (w : World) (hr0_0 : Kd.C (Kd.int .i64) w A0_0 l0_0.length l0_0) (hc0_0 : l0_0.length ≤ c0_0) (hr0_1 : Kd.C k59 w A0_1 l0_1.length l0_1) (hc0_1 : l0_1.length ≤ c0_1) (h : impl_Ground_face.f k l0_0 l0_1 a1 a2 = some r) :
  Calls Try.prog 55 #[.agg #[.slice A0_0 l0_0.length c0_0, .slice A0_1 l0_1.length c0_1], .int .i64 a1, .int .i64 a2] w fun e w' => ∃ v0_ : Value, e = .returned (v0_) ∧ Kd.R (Kd.int .i64) 2 w' w.heap.size (fun _ => True) v0_ r ∧ Below w.heap.size w w' := by
 have hu31 := Try.underlying31
 have HR0_0 := Aside0.mk hr0_0
 have HC0_0 := Aside0.mk hc0_0
 clear hr0_0 hc0_0
 have HR0_1 := Aside0.mk hr0_1
 have HC0_1 := Aside0.mk hc0_1
 clear hr0_1 hc0_1
 have HB := Aside0.mk (Below.refl w.heap.size w)
 have H : (if 0 ≤ (wrap64 ((l0_0.length : Int) + 1)) then (if (wrap64 ((l0_0.length : Int) + 1) : Int).toNat ≤ 35184372088832 then ((some (([52, 90, 111, 122, 125, 125, 122, 111, 90, 52] : List Int) : List Int)).bind fun y259 => (impl_Ground_face.l0 k a1 a2 (List.replicate (wrap64 ((l0_0.length : Int) + 1) : Int).toNat 0) y259 (y259.length : Int) 0 l0_0 l0_1)) else (none)) else (none)) = some r := h
 clear h
 obtain ⟨ji4, hji4⟩ : ∃ j_ : Int, (wrap64 ((l0_0.length : Int) + 1)) = j_ := ⟨_, rfl⟩
 replace H : (if 0 ≤ (ji4) then (if (ji4 : Int).toNat ≤ 35184372088832 then ((some (([52, 90, 111, 122, 125, 125, 122, 111, 90, 52] : List Int) : List Int)).bind fun y259 => (impl_Ground_face.l0 k a1 a2 (List.replicate (ji4 : Int).toNat 0) y259 (y259.length : Int) 0 l0_0 l0_1)) else (none)) else (none)) = some r := by first | (rw [hji4] at H; exact H) | (simp only [hji4] at H ⊢; exact H)
 have hji4w : (IntKind.i64.wrap ((l0_0.length : Int) + 1)) = ji4 := (i64_w _).trans hji4
 by_cases c5 : 0 ≤ (ji4)
 ·rw [if_pos c5] at H
  have c5b0 := eq_true c5
  have c5b1 : decide (0 ≤ (ji4)) = true := decide_eq_true c5
  clear c5
  by_cases c6 : (ji4 : Int).toNat ≤ 35184372088832
  ·rw [if_pos c6] at H
   have c6b0 := eq_true c6
   have c6b1 : decide ((ji4 : Int).toNat ≤ 35184372088832) = true := decide_eq_true c6
   clear c6
   obtain ⟨y256, hy256⟩ : ∃ y_ : List Int, y_ = (List.replicate (ji4 : Int).toNat 0) := ⟨_, rfl⟩
   replace H : ((some (([52, 90, 111, 122, 125, 125, 122, 111, 90, 52] : List Int) : List Int)).bind fun y259 => (impl_Ground_face.l0 k a1 a2 y256 y259 (y259.length : Int) 0 l0_0 l0_1)) = some r := by first | (rw [hy256]; with_reducible exact H) | (have H2_ := (Option.bind_some _ _).symm.trans H; rw [hy256]; with_reducible exact H2_) | (have H2_ := (Option.bind_some _ _).symm.trans H; with_reducible exact H2_) | with_reducible exact H | (rw [hy256]; exact H) | exact H
   have Ny256 := Aside0.mk hy256
   clear hy256
   obtain ⟨y259, hy259⟩ : ∃ y_ : List Int, y_ = (([52, 90, 111, 122, 125, 125, 122, 111, 90, 52] : List Int)) := ⟨_, rfl⟩
   replace H : (impl_Ground_face.l0 k a1 a2 y256 y259 (y259.length : Int) 0 l0_0 l0_1) = some r := by first | (rw [hy259]; with_reducible exact H) | (have H2_ := (Option.bind_some _ _).symm.trans H; rw [hy259]; with_reducible exact H2_) | (have H2_ := (Option.bind_some _ _).symm.trans H; with_reducible exact H2_) | with_reducible exact H | (rw [hy259]; exact H) | exact H
   have Ny259 := Aside0.mk hy259
   clear hy259
   have H' := Aside0.mk H
   clear H
   go_enter Try.func55, Try.ntmps55
   go_wp2_with (first | ((with_reducible refine gate_dst (N := 3) rfl ?_); refine box_event ?hg (N := 3) ?hd (cs := #[.slice A0_0 l0_0.length c0_0, .slice A0_1 l0_1.length c0_1]) (t := 31) ?hr ?_; (case hd => rfl); (case hg => rfl); (case hr => first | (go_simp; done) | (go_simp; rfl)); intro gb255 hg w7 hbox hb; have n0_ := Aside0.mk (below_step (by repeat (first | (with_reducible first | exact HB.out | apply below_alloc | apply pw_below_drewN | apply below_drew1) | exact HB.out)) hb); have n1_ := Aside0.mk (hbox); have n2_ := Aside0.mk ((by rw [hg]; exact (below_size (by repeat (first | (with_reducible first | exact HB.out | apply below_alloc | apply pw_below_drewN | apply below_drew1) | exact HB.out))) : w.heap.size ≤ gb255)); have n3_ := Aside0.mk ((by rw [hg]; exact (below_size (by repeat (first | (with_reducible first | exact HB.out | apply below_alloc | apply pw_below_drewN | apply below_drew1) | exact HB.out))) : w.heap.size ≤ gb255)); clear HB; have HB := n0_; have BK255 := n1_; have GW255 := n2_; have GE255 := n3_; clear n0_ n1_ n2_ n3_; clear hb hbox hg; have hcz8_0 : w7.cell? ⟨gb255, 0, none⟩ = some (.slice A0_0 l0_0.length c0_0) := (blk_cell BK255.out 0).trans rfl; have hcz8_1 : w7.cell? ⟨gb255, 1, none⟩ = some (.slice A0_1 l0_1.length c0_1) := (blk_cell BK255.out 1).trans rfl; have hfz8_0 := blk_frozen BK255.out 0; have hfz8_1 := blk_frozen BK255.out 1) | ((with_reducible refine gate_dst (N := 15) rfl ?_); refine Kd.R_make (Kd.int .i64) _ 2 rfl (N := 15) rfl 22 _ _ rfl ji4 rfl rfl Try.underlying22 (.int .i64 0) 8 info2 rfl (by decide) (by omega) 0 (ok := fun _ => True) (okp := fun _ => True) rfl (fun _ hk => hk) trivial (of_decide_eq_true (by assumption)) (Nat.le_trans (Nat.mul_le_mul_right _ (of_decide_eq_true (by assumption) : ji4.toNat ≤ 35184372088832)) (by omega)) (Below.refl _ _) (Nat.le_refl _) ?_; intro v257 w9 ho10 hb hg_ hnew_; clear hg_ hnew_; (first | rw [← Ny256.out] at ho10 | (simp only [Int.reduceToNat] at ho10; rw [← Ny256.out] at ho10)); have n0_ := Aside0.mk (Kd.R_lower ho10 (below_size (by repeat (first | (with_reducible first | exact HB.out | apply below_alloc | apply pw_below_drewN | apply below_drew1 | refine below_set ?_ GE255.out) | exact HB.out)))); have n1_ := Aside0.mk (blk_below (g := gb255) (o := .cells #[.slice A0_0 l0_0.length c0_0, .slice A0_1 l0_1.length c0_1] 31 (0, 0)) (by (with_reducible repeat (first | refine blk_drewN ?_ _ | refine blk_drew ?_ | refine blk_alloc ?_ _)); exact BK255.out) hb); have n2_ := Aside0.mk (below_step (by repeat (first | (with_reducible first | exact HB.out | apply below_alloc | apply pw_below_drewN | apply below_drew1 | refine below_set ?_ GE255.out) | exact HB.out)) hb); clear BK255; clear HB; have HO258 := n0_; have BK255 := n1_; have HB := n2_; clear n0_ n1_ n2_; clear hb ho10) | ((with_reducible refine gate_dst (N := 16) rfl ?_); refine Kd.R_lit (Kd.int .i64) _ 2 ?hg (N := 16) ?hd (xs := ([52, 90, 111, 122, 125, 125, 122, 111, 90, 52] : List Int)) (inner := [.int .i64 52, .int .i64 90, .int .i64 111, .int .i64 122, .int .i64 125, .int .i64 125, .int .i64 122, .int .i64 111, .int .i64 90, .int .i64 52]) (ok := fun _ => True) (okp := fun _ => True) ?hr ?hp (fun _ hk => hk) trivial (Below.refl _ _) (Nat.le_refl _) (by simp) ?_; (case hd => rfl); (case hg => rfl); (case hr => first | (go_simp; done) | (go_simp; rfl)); (case hp => exact (Reps.one (show Kd.M (Kd.int .i64) _ _ _ 52 [.int .i64 52] from rfl) (Reps.one (show Kd.M (Kd.int .i64) _ _ _ 90 [.int .i64 90] from rfl) (Reps.one (show Kd.M (Kd.int .i64) _ _ _ 111 [.int .i64 111] from rfl) (Reps.one (show Kd.M (Kd.int .i64) _ _ _ 122 [.int .i64 122] from rfl) (Reps.one (show Kd.M (Kd.int .i64) _ _ _ 125 [.int .i64 125] from rfl) (Reps.one (show Kd.M (Kd.int .i64) _ _ _ 125 [.int .i64 125] from rfl) (Reps.one (show Kd.M (Kd.int .i64) _ _ _ 122 [.int .i64 122] from rfl) (Reps.one (show Kd.M (Kd.int .i64) _ _ _ 111 [.int .i64 111] from rfl) (Reps.one (show Kd.M (Kd.int .i64) _ _ _ 90 [.int .i64 90] from rfl) (Reps.one (show Kd.M (Kd.int .i64) _ _ _ 52 [.int .i64 52] from rfl) (Reps.none _ _)))))))))))); intro v260 w11 ho12 hb hg_ hnew_; clear hg_ hnew_; (first | rw [← Ny259.out] at ho12 | (simp only [Int.reduceToNat] at ho12; rw [← Ny259.out] at ho12)); have n0_ := Aside0.mk (Kd.R_elder' (by (with_reducible repeat (first | apply Kd.R_alloc | apply Kd.R_drewN | apply Kd.R_drew)); exact HO258.out) (Kd.R_base ho12) hb); have n1_ := Aside0.mk (Kd.R_lower (Kd.R_new' ho12 (Kd.R_lt (by (with_reducible repeat (first | apply Kd.R_alloc | apply Kd.R_drewN | apply Kd.R_drew)); exact HO258.out))) (below_size (by repeat (first | (with_reducible first | exact HB.out | apply below_alloc | apply pw_below_drewN | apply below_drew1 | refine below_set ?_ GE255.out) | exact HB.out)))); have n2_ := Aside0.mk (blk_below (g := gb255) (o := .cells #[.slice A0_0 l0_0.length c0_0, .slice A0_1 l0_1.length c0_1] 31 (0, 0)) (by (with_reducible repeat (first | refine blk_drewN ?_ _ | refine blk_drew ?_ | refine blk_alloc ?_ _)); exact BK255.out) hb); have n3_ := Aside0.mk (below_step (by repeat (first | (with_reducible first | exact HB.out | apply below_alloc | apply pw_below_drewN | apply below_drew1 | refine below_set ?_ GE255.out) | exact HB.out)) hb); clear HO258; clear BK255; clear HB; have HO258 := n0_; have HO261 := n1_; have BK255 := n2_; have HB := n3_; clear n0_ n1_ n2_ n3_; clear hb ho12; obtain ⟨Ao13, co13, eo13⟩ := Kd.R_slice HO261.out; subst eo13))
   go_loopg [18] k (fun kq v18 w' => ∃ (x7_1 : List Int) (x18_1 : Int), v18 = .int .i64 x18_1 ∧ Aside0 (impl_Ground_face.l0 kq a1 a2 x7_1 y259 (y259.length : Int) x18_1 l0_0 l0_1 = some r) ∧ Aside0 (kq ≤ k) ∧ Aside0 (Kd.R (Kd.int .i64) 2 w' w.heap.size (fun k_ => some k_ ≠ ((.slice Ao13 y259.length co13) : Value).ownBlock) v257 x7_1) ∧ Aside0 (Kd.R (Kd.int .i64) 2 w' w.heap.size (fun k_ => some k_ ≠ (v257 : Value).ownBlock) (.slice Ao13 y259.length co13) y259) ∧ Aside0 (w'.heap[gb255]? = some (.cells #[(.slice A0_0 l0_0.length c0_0), (.slice A0_1 l0_1.length c0_1)] 31 (0, 0))) ∧ Aside0 (Below w.heap.size w w'))
   case atStart => exact ⟨(y256), (0), (by first | rfl | (simp; done) | (simp [*]; done) | (simp [Int.tdiv_eq_ediv_of_nonneg, *]; done)), H', ⟨Nat.le_refl _⟩, ⟨by (with_reducible repeat (first | apply Kd.R_alloc | apply Kd.R_drewN | apply Kd.R_drew)); exact Kd.R_mono HO258.out (fun _ hk => hk.2)⟩, ⟨by (with_reducible repeat (first | apply Kd.R_alloc | apply Kd.R_drewN | apply Kd.R_drew)); exact Kd.R_mono HO261.out (fun _ hk => hk.2)⟩, ⟨by (with_reducible repeat (first | refine blk_drewN ?_ _ | refine blk_drew ?_ | refine blk_alloc ?_ _)); exact BK255.out⟩, ⟨by repeat (first | (with_reducible first | exact HB.out | apply below_alloc | apply pw_below_drewN | apply below_drew1 | refine below_set ?_ GE255.out) | exact HB.out)⟩⟩
   case round =>
    clear H'
    try clear p2
    try clear c5
    try clear c5b0
    try clear c5b1
    try clear c6
    try clear c6b0
    try clear c6b1
    try clear p6
    try clear hcz8_0
    try clear hcz8_1
    try clear hfz8_0
    try clear hfz8_1
    obtain ⟨x7_1, x18_1, rfl, HA, HK1, HO_7, HO_16, BK255, HB⟩ := hrel
    cases gk with
    | zero => exact absurd HA.out (by simp [impl_Ground_face.l0])
    | succ k1 =>
     have H := HA.out
     clear HA
     simp only [impl_Ground_face.l0] at H
     by_cases c14 : x18_1 < (y259.length : Int)
     ·rw [if_pos c14] at H
      have c14b0 : decide (x18_1 < (y259.length : Int)) = true := decide_eq_true c14
      clear c14
      by_cases c15 : 0 ≤ x18_1
      ·rw [if_pos c15] at H
       have c15b0 : decide (0 ≤ x18_1) = true := decide_eq_true c15
       clear c15
       by_cases c16 : x18_1 < (y259.length : Int)
       ·rw [if_pos c16] at H
        have c16b0 : decide (x18_1 < (y259.length : Int)) = true := decide_eq_true c16
        clear c16
        replace H := Option.bind_eq_some_iff.mp H
        obtain ⟨t263, A170, H⟩ := H
        replace H : (if t263 < 0 then (if 0 ≤ (l0_0.length : Int) then (if (l0_0.length : Int) < (x7_1.length : Int) then (impl_Ground_face.l0 k1 a1 a2 (x7_1.set ((l0_0.length : Int) : Int).toNat (wrap64 ((rd x7_1 (l0_0.length : Int)) + (rd y259 x18_1)))) y259 (y259.length : Int) (wrap64 (x18_1 + 1)) l0_0 l0_1) else (none)) else (none)) else (if 0 ≤ t263 then (if t263 < (x7_1.length : Int) then (impl_Ground_face.l0 k1 a1 a2 (x7_1.set (t263 : Int).toNat (wrap64 ((rd x7_1 t263) + (rd y259 x18_1)))) y259 (y259.length : Int) (wrap64 (x18_1 + 1)) l0_0 l0_1) else (none)) else (none))) = some r := H
        have A17 := Aside0.mk A170
        clear A170
        by_cases c18 : t263 < 0
        ·rw [if_pos c18] at H
         have c18b0 : decide (t263 < 0) = true := decide_eq_true c18
         clear c18
         by_cases c19 : 0 ≤ (l0_0.length : Int)
         ·rw [if_pos c19] at H
          have c19b0 : decide (0 ≤ (l0_0.length : Int)) = true := decide_eq_true c19
          have c19b1 : decide (0 ≤ l0_0.length) = true := decide_eq_true (by omega)
          clear c19
          by_cases c20 : (l0_0.length : Int) < (x7_1.length : Int)
          ·rw [if_pos c20] at H
           have c20b0 : decide ((l0_0.length : Int) < (x7_1.length : Int)) = true := decide_eq_true c20
           have c20b1 : decide (l0_0.length < x7_1.length) = true := decide_eq_true (Int.ofNat_lt.mp c20)
           clear c20
           obtain ⟨y265, hy265⟩ : ∃ y_ : List Int, y_ = (x7_1.set ((l0_0.length : Int) : Int).toNat (wrap64 ((rd x7_1 (l0_0.length : Int)) + (rd y259 x18_1)))) := ⟨_, rfl⟩
           replace H : (impl_Ground_face.l0 k1 a1 a2 y265 y259 (y259.length : Int) (wrap64 (x18_1 + 1)) l0_0 l0_1) = some r := by first | (rw [hy265]; with_reducible exact H) | (have H2_ := (Option.bind_some _ _).symm.trans H; rw [hy265]; with_reducible exact H2_) | (have H2_ := (Option.bind_some _ _).symm.trans H; with_reducible exact H2_) | with_reducible exact H | (rw [hy265]; exact H) | exact H
           have Ny265 := Aside0.mk hy265
           clear hy265
           have H' := Aside0.mk H
           clear H
           have p262 : 0 ≤ (x18_1 : Int) := of_decide_eq_true (by assumption)
           have q262 : x18_1 < (y259.length : Int) := of_decide_eq_true (by assumption)
           obtain ⟨ad262, e262, hx262_0⟩ := Kd.at_int (Kd.R_reads' HO_16.out).2.2 x18_1 p262 q262
           cases e262
           replace p262 := eq_true p262
           replace q262 := eq_true q262
           have hcz22_0 : wr.cell? ⟨gb255, 0, none⟩ = some (.slice A0_0 l0_0.length c0_0) := (blk_cell BK255.out 0).trans rfl
           have hcz22_1 : wr.cell? ⟨gb255, 1, none⟩ = some (.slice A0_1 l0_1.length c0_1) := (blk_cell BK255.out 1).trans rfl
           have hfz22_0 := blk_frozen BK255.out 0
           have hfz22_1 := blk_frozen BK255.out 1
           go_wp2_with (first | ((with_reducible refine gate_callee (f := 65) rfl ?_); refine goesL_ (some 31) rfl rfl Try.func65 (by kernel_rfl) rfl #[.agg #[.slice A0_0 l0_0.length c0_0, .slice A0_1 l0_1.length c0_1], .int .i64 a1, .int .i64 (wrap64 (a2 + (wrap64 (300 * (wrap64 ((wrap64 (2 * x18_1)) - 9))))))] rfl (by (try simp only [List.map_toArray, List.map_cons, List.map_nil]); first | done | rfl) ?_; (with_reducible refine (impl_Ground_class.calls k1 _ _ l0_0 _ _ l0_1 a1 (wrap64 (a2 + (wrap64 (300 * (wrap64 ((wrap64 (2 * x18_1)) - 9)))))) t263 _ ?side1 ?side2 ?side3 ?side4 A17.out).mono ?_); (case side1 => repeat (first | exact (Kd.C_below HR0_0.out HB.out) | (with_reducible first | refine Kd.C_alloc ?_ _ | refine Kd.C_drewN ?_ _ | refine Kd.C_drew ?_))); (case side2 => exact HC0_0.out); (case side3 => repeat (first | exact (Kd.C_below HR0_1.out HB.out) | (with_reducible first | refine Kd.C_alloc ?_ _ | refine Kd.C_drewN ?_ _ | refine Kd.C_drew ?_))); (case side4 => exact HC0_1.out); rintro e w23 ⟨rfl, hb⟩; refine ⟨_, rfl, ?_⟩; have n0_ := Aside0.mk (Kd.R_below (by (with_reducible repeat (first | apply Kd.R_alloc | apply Kd.R_drewN | apply Kd.R_drew)); exact HO_7.out) hb); have n1_ := Aside0.mk (Kd.R_below (by (with_reducible repeat (first | apply Kd.R_alloc | apply Kd.R_drewN | apply Kd.R_drew)); exact HO_16.out) hb); have n2_ := Aside0.mk (blk_below (g := gb255) (o := .cells #[.slice A0_0 l0_0.length c0_0, .slice A0_1 l0_1.length c0_1] 31 (0, 0)) (by (with_reducible repeat (first | refine blk_drewN ?_ _ | refine blk_drew ?_ | refine blk_alloc ?_ _)); exact BK255.out) hb); have n3_ := Aside0.mk (below_step (by repeat (first | (with_reducible first | exact HB.out | apply below_alloc | apply pw_below_drewN | apply below_drew1 | refine below_set ?_ GE255.out) | exact HB.out)) hb); clear HO_7; clear HO_16; clear BK255; clear HB; have HO_7 := n0_; have HO_16 := n1_; have BK255 := n2_; have HB := n3_; clear n0_ n1_ n2_ n3_; (try clear hb); (try clear hb2); (try clear hk); (try clear hi); have hcz24_0 : w23.cell? ⟨gb255, 0, none⟩ = some (.slice A0_0 l0_0.length c0_0) := (blk_cell BK255.out 0).trans rfl; have hcz24_1 : w23.cell? ⟨gb255, 1, none⟩ = some (.slice A0_1 l0_1.length c0_1) := (blk_cell BK255.out 1).trans rfl; have hfz24_0 := blk_frozen BK255.out 0; have hfz24_1 := blk_frozen BK255.out 1; obtain ⟨Ao25, co25, eo25⟩ := Kd.R_slice HO_7.out; subst eo25; have p264 : 0 ≤ ((l0_0.length : Int) : Int) := of_decide_eq_true (by assumption); have q264 : (l0_0.length : Int) < (x7_1.length : Int) := of_decide_eq_true (by assumption); obtain ⟨ad264, e264, hx264_0⟩ := Kd.at_int (Kd.R_reads' HO_7.out).2.2 (l0_0.length : Int) p264 q264; cases e264; (try simp only [Go.IntWalk.toNatUp] at hx264_0); replace p264 := eq_true p264; replace q264 := eq_true q264; have p21 : 0 ≤ ((l0_0.length : Int) : Int) := of_decide_eq_true (by assumption); have q21 : ((l0_0.length : Int) : Int) < ((x7_1.length : Int) : Int) := of_decide_eq_true (by assumption); obtain ⟨go21, co21, eo21, gb21, gl21, cl21, HG21⟩ := Kd.R_form HO_7.out (by omega); (first | cases eo21 | (injection eo21 with ea_ en_ ec_; (first | subst ea_ | (injection ea_ with ea_; subst ea_)); subst ec_; clear en_)); have GB21 := Aside0.mk gb21; have GG21 := Aside0.mk HG21; clear gb21 gl21 HG21; (first | simp only [add_plain] at hx264_0 | skip); obtain ⟨hx21_0, hf21_0⟩ := Kd.R_celln 0 HO_7.out ((l0_0.length : Int) : Int) p21 q21; replace p21 := eq_true p21; replace q21 := eq_true q21; obtain ⟨hy26_, hz26_⟩ := Kd.R_celln 0 HO_7.out ((l0_0.length : Int) : Int) (of_decide_eq_true (by assumption)) (of_decide_eq_true (by assumption)); (try simp only [Go.IntWalk.toNatUp] at hy26_ hz26_); have HP26 := Kd.R_putg HO_7.out ((l0_0.length : Int) : Int) (wrap64 ((rd x7_1 (l0_0.length : Int)) + (rd y259 x18_1)))) | ((with_reducible refine gate_store (t := 2) (p := 43) rfl ?_); refine store_event (t := 2) (p := 43) (v := ?vo_w27) (w1 := (w23.setCell ⟨go21, ((l0_0.length : Int) : Int).toNat, none⟩ (.int .i64 (wrap64 ((rd x7_1 (l0_0.length : Int)) + (rd y259 x18_1)))))) ?hg ?ho ?hn ?hr ?_; (case ho => rfl); (case hg => rfl); (case hn => rfl); (case hr => first | (go_simp; done) | (go_simp; rfl)); intro w27 hw; have hg : w23.grownBy w27 (some go21) := (by rw [hw]; exact HP26.2); have hp_ : Kd.R (Kd.int .i64) 2 w27 w.heap.size (fun k_ => some k_ ≠ (.slice (some ad262) y259.length co13 : Value).ownBlock) (.slice (some ⟨go21, 0, none⟩) x7_1.length co25) y265 := (by rw [hw, Ny265.out]; exact HP26.1); clear HP26; have n0_ := Aside0.mk (hp_); have n1_ := Aside0.mk (Kd.R_after (v := (.slice (some ⟨go21, 0, none⟩) x7_1.length co25)) (v1 := (.slice (some ⟨go21, 0, none⟩) x7_1.length co25)) (ok := (fun _ => True)) (by (with_reducible repeat (first | apply Kd.R_alloc | apply Kd.R_drewN | apply Kd.R_drew)); exact Kd.R_mono HO_16.out (fun _ hk => ⟨trivial, hk⟩)) hg (.inl rfl)); have n2_ := Aside0.mk (blk_grown (g := gb255) (o := .cells #[.slice A0_0 l0_0.length c0_0, .slice A0_1 l0_1.length c0_1] 31 (0, 0)) (by (with_reducible repeat (first | refine blk_drewN ?_ _ | refine blk_drew ?_ | refine blk_alloc ?_ _)); exact BK255.out) hg (Kd.R_ne HO_7.out BK255.out (by decide))); have n3_ := Aside0.mk ((by rw [hw]; exact below_set (HB.out) GB21.out : Below w.heap.size w w27)); clear HO_7; clear HO_16; clear BK255; clear HB; have HO_7 := n0_; have HO_16 := n1_; have BK255 := n2_; have HB := n3_; clear n0_ n1_ n2_ n3_; clear hg hw hp_))
           go_roundg k1
           case measure => have := HK1.out; omega
           case rel => exact ⟨(y265), (wrap64 (x18_1 + 1)), (by first | rfl | (simp; done) | (simp [*]; done) | (simp [Int.tdiv_eq_ediv_of_nonneg, *]; done)), H', ⟨by have := HK1.out; omega⟩, ⟨by (with_reducible repeat (first | apply Kd.R_alloc | apply Kd.R_drewN | apply Kd.R_drew)); exact HO_7.out⟩, ⟨by (with_reducible repeat (first | apply Kd.R_alloc | apply Kd.R_drewN | apply Kd.R_drew)); exact Kd.R_mono HO_16.out (fun _ hk => hk.2)⟩, ⟨by (with_reducible repeat (first | refine blk_drewN ?_ _ | refine blk_drew ?_ | refine blk_alloc ?_ _)); exact BK255.out⟩, ⟨by repeat (first | (with_reducible first | exact HB.out | apply below_alloc | apply pw_below_drewN | apply below_drew1 | refine below_set ?_ GE255.out) | exact HB.out)⟩⟩
          ·rw [if_neg c20] at H
           exact absurd H (by simp)
         ·rw [if_neg c19] at H
          exact absurd H (by simp)
        ·rw [if_neg c18] at H
         have c18b0 : decide (t263 < 0) = false := decide_eq_false c18
         clear c18
         by_cases c28 : 0 ≤ t263
         ·rw [if_pos c28] at H
          have c28b0 : decide (0 ≤ t263) = true := decide_eq_true c28
          clear c28
          by_cases c29 : t263 < (x7_1.length : Int)
          ·rw [if_pos c29] at H
           have c29b0 : decide (t263 < (x7_1.length : Int)) = true := decide_eq_true c29
           clear c29
           obtain ⟨y267, hy267⟩ : ∃ y_ : List Int, y_ = (x7_1.set (t263 : Int).toNat (wrap64 ((rd x7_1 t263) + (rd y259 x18_1)))) := ⟨_, rfl⟩
           replace H : (impl_Ground_face.l0 k1 a1 a2 y267 y259 (y259.length : Int) (wrap64 (x18_1 + 1)) l0_0 l0_1) = some r := by first | (rw [hy267]; with_reducible exact H) | (have H2_ := (Option.bind_some _ _).symm.trans H; rw [hy267]; with_reducible exact H2_) | (have H2_ := (Option.bind_some _ _).symm.trans H; with_reducible exact H2_) | with_reducible exact H | (rw [hy267]; exact H) | exact H
           have Ny267 := Aside0.mk hy267
           clear hy267
           have H' := Aside0.mk H
           clear H
           have p262 : 0 ≤ (x18_1 : Int) := of_decide_eq_true (by assumption)
           have q262 : x18_1 < (y259.length : Int) := of_decide_eq_true (by assumption)
           obtain ⟨ad262, e262, hx262_0⟩ := Kd.at_int (Kd.R_reads' HO_16.out).2.2 x18_1 p262 q262
           cases e262
           replace p262 := eq_true p262
           replace q262 := eq_true q262
           have hcz31_0 : wr.cell? ⟨gb255, 0, none⟩ = some (.slice A0_0 l0_0.length c0_0) := (blk_cell BK255.out 0).trans rfl
           have hcz31_1 : wr.cell? ⟨gb255, 1, none⟩ = some (.slice A0_1 l0_1.length c0_1) := (blk_cell BK255.out 1).trans rfl
           have hfz31_0 := blk_frozen BK255.out 0
           have hfz31_1 := blk_frozen BK255.out 1
           go_wp2_with (first | ((with_reducible refine gate_callee (f := 65) rfl ?_); refine goesL_ (some 31) rfl rfl Try.func65 (by kernel_rfl) rfl #[.agg #[.slice A0_0 l0_0.length c0_0, .slice A0_1 l0_1.length c0_1], .int .i64 a1, .int .i64 (wrap64 (a2 + (wrap64 (300 * (wrap64 ((wrap64 (2 * x18_1)) - 9))))))] rfl (by (try simp only [List.map_toArray, List.map_cons, List.map_nil]); first | done | rfl) ?_; (with_reducible refine (impl_Ground_class.calls k1 _ _ l0_0 _ _ l0_1 a1 (wrap64 (a2 + (wrap64 (300 * (wrap64 ((wrap64 (2 * x18_1)) - 9)))))) t263 _ ?side1 ?side2 ?side3 ?side4 A17.out).mono ?_); (case side1 => repeat (first | exact (Kd.C_below HR0_0.out HB.out) | (with_reducible first | refine Kd.C_alloc ?_ _ | refine Kd.C_drewN ?_ _ | refine Kd.C_drew ?_))); (case side2 => exact HC0_0.out); (case side3 => repeat (first | exact (Kd.C_below HR0_1.out HB.out) | (with_reducible first | refine Kd.C_alloc ?_ _ | refine Kd.C_drewN ?_ _ | refine Kd.C_drew ?_))); (case side4 => exact HC0_1.out); rintro e w32 ⟨rfl, hb⟩; refine ⟨_, rfl, ?_⟩; have n0_ := Aside0.mk (Kd.R_below (by (with_reducible repeat (first | apply Kd.R_alloc | apply Kd.R_drewN | apply Kd.R_drew)); exact HO_7.out) hb); have n1_ := Aside0.mk (Kd.R_below (by (with_reducible repeat (first | apply Kd.R_alloc | apply Kd.R_drewN | apply Kd.R_drew)); exact HO_16.out) hb); have n2_ := Aside0.mk (blk_below (g := gb255) (o := .cells #[.slice A0_0 l0_0.length c0_0, .slice A0_1 l0_1.length c0_1] 31 (0, 0)) (by (with_reducible repeat (first | refine blk_drewN ?_ _ | refine blk_drew ?_ | refine blk_alloc ?_ _)); exact BK255.out) hb); have n3_ := Aside0.mk (below_step (by repeat (first | (with_reducible first | exact HB.out | apply below_alloc | apply pw_below_drewN | apply below_drew1 | refine below_set ?_ GE255.out) | exact HB.out)) hb); clear HO_7; clear HO_16; clear BK255; clear HB; have HO_7 := n0_; have HO_16 := n1_; have BK255 := n2_; have HB := n3_; clear n0_ n1_ n2_ n3_; (try clear hb); (try clear hb2); (try clear hk); (try clear hi); obtain ⟨Ao33, co33, eo33⟩ := Kd.R_slice HO_7.out; subst eo33; have p266 : 0 ≤ (t263 : Int) := of_decide_eq_true (by assumption); have q266 : t263 < (x7_1.length : Int) := of_decide_eq_true (by assumption); obtain ⟨ad266, e266, hx266_0⟩ := Kd.at_int (Kd.R_reads' HO_7.out).2.2 t263 p266 q266; cases e266; replace p266 := eq_true p266; replace q266 := eq_true q266; have p30 : 0 ≤ (t263 : Int) := of_decide_eq_true (by assumption); have q30 : (t263 : Int) < ((x7_1.length : Int) : Int) := of_decide_eq_true (by assumption); obtain ⟨go30, co30, eo30, gb30, gl30, cl30, HG30⟩ := Kd.R_form HO_7.out (by omega); (first | cases eo30 | (injection eo30 with ea_ en_ ec_; (first | subst ea_ | (injection ea_ with ea_; subst ea_)); subst ec_; clear en_)); have GB30 := Aside0.mk gb30; have GG30 := Aside0.mk HG30; clear gb30 gl30 HG30; (first | simp only [add_plain] at hx266_0 | skip); obtain ⟨hx30_0, hf30_0⟩ := Kd.R_celln 0 HO_7.out (t263 : Int) p30 q30; replace p30 := eq_true p30; replace q30 := eq_true q30; obtain ⟨hy34_, hz34_⟩ := Kd.R_celln 0 HO_7.out (t263 : Int) (of_decide_eq_true (by assumption)) (of_decide_eq_true (by assumption)); have HP34 := Kd.R_putg HO_7.out (t263 : Int) (wrap64 ((rd x7_1 t263) + (rd y259 x18_1)))) | ((with_reducible refine gate_store (t := 2) (p := 43) rfl ?_); refine store_event (t := 2) (p := 43) (v := ?vo_w35) (w1 := (w32.setCell ⟨go30, (t263 : Int).toNat, none⟩ (.int .i64 (wrap64 ((rd x7_1 t263) + (rd y259 x18_1)))))) ?hg ?ho ?hn ?hr ?_; (case ho => rfl); (case hg => rfl); (case hn => rfl); (case hr => first | (go_simp; done) | (go_simp; rfl)); intro w35 hw; have hg : w32.grownBy w35 (some go30) := (by rw [hw]; exact HP34.2); have hp_ : Kd.R (Kd.int .i64) 2 w35 w.heap.size (fun k_ => some k_ ≠ (.slice (some ad262) y259.length co13 : Value).ownBlock) (.slice (some ⟨go30, 0, none⟩) x7_1.length co33) y267 := (by rw [hw, Ny267.out]; exact HP34.1); clear HP34; have n0_ := Aside0.mk (hp_); have n1_ := Aside0.mk (Kd.R_after (v := (.slice (some ⟨go30, 0, none⟩) x7_1.length co33)) (v1 := (.slice (some ⟨go30, 0, none⟩) x7_1.length co33)) (ok := (fun _ => True)) (by (with_reducible repeat (first | apply Kd.R_alloc | apply Kd.R_drewN | apply Kd.R_drew)); exact Kd.R_mono HO_16.out (fun _ hk => ⟨trivial, hk⟩)) hg (.inl rfl)); have n2_ := Aside0.mk (blk_grown (g := gb255) (o := .cells #[.slice A0_0 l0_0.length c0_0, .slice A0_1 l0_1.length c0_1] 31 (0, 0)) (by (with_reducible repeat (first | refine blk_drewN ?_ _ | refine blk_drew ?_ | refine blk_alloc ?_ _)); exact BK255.out) hg (Kd.R_ne HO_7.out BK255.out (by decide))); have n3_ := Aside0.mk ((by rw [hw]; exact below_set (HB.out) GB30.out : Below w.heap.size w w35)); clear HO_7; clear HO_16; clear BK255; clear HB; have HO_7 := n0_; have HO_16 := n1_; have BK255 := n2_; have HB := n3_; clear n0_ n1_ n2_ n3_; clear hg hw hp_))
           go_roundg k1
           case measure => have := HK1.out; omega
           case rel => exact ⟨(y267), (wrap64 (x18_1 + 1)), (by first | rfl | (simp; done) | (simp [*]; done) | (simp [Int.tdiv_eq_ediv_of_nonneg, *]; done)), H', ⟨by have := HK1.out; omega⟩, ⟨by (with_reducible repeat (first | apply Kd.R_alloc | apply Kd.R_drewN | apply Kd.R_drew)); exact HO_7.out⟩, ⟨by (with_reducible repeat (first | apply Kd.R_alloc | apply Kd.R_drewN | apply Kd.R_drew)); exact Kd.R_mono HO_16.out (fun _ hk => hk.2)⟩, ⟨by (with_reducible repeat (first | refine blk_drewN ?_ _ | refine blk_drew ?_ | refine blk_alloc ?_ _)); exact BK255.out⟩, ⟨by repeat (first | (with_reducible first | exact HB.out | apply below_alloc | apply pw_below_drewN | apply below_drew1 | refine below_set ?_ GE255.out) | exact HB.out)⟩⟩
          ·rw [if_neg c29] at H
           exact absurd H (by simp)
         ·rw [if_neg c28] at H
          exact absurd H (by simp)
       ·rw [if_neg c16] at H
        exact absurd H (by simp)
      ·rw [if_neg c15] at H
       exact absurd H (by simp)
     ·rw [if_neg c14] at H
      have c14b0 : decide (x18_1 < (y259.length : Int)) = false := decide_eq_false c14
      clear c14
      obtain rfl := Option.some.inj H
      go_wp2
      go_ret
      exact ⟨_, by first | rfl | (simp [errW_none, errW_some] <;> rfl) | (simp only [← hji4]; first | rfl | (simp [errW_none, errW_some] <;> rfl)) | (simp [*, errW_none, errW_some] <;> rfl) | (simp [Int.tdiv_eq_ediv_of_nonneg, *]; done), by (with_reducible repeat (first | apply Kd.R_alloc | apply Kd.R_drewN | apply Kd.R_drew)); exact Kd.R_mono HO_7.out (fun _ hk => trivial), by repeat (first | (with_reducible first | exact HB.out | apply below_alloc | apply pw_below_drewN | apply below_drew1 | refine below_set ?_ GE255.out) | exact HB.out)⟩
  ·rw [if_neg c6] at H
   exact absurd H (by simp)
 ·rw [if_neg c5] at H
  exact absurd H (by simp)

end Go.Proofs.Ytgfpbiaocokdeaa.P
namespace Go.Proofs.Ytgfpbiaocokdeaa.P
open Go.RowKit Go.Proofs.YtgfpbiaocokdeaaW.PrintWords Go.Proofs.YtgfpbiaocokdeaaW.PrintLast Go.Proofs.YtgfpbiaocokdeaaW.PrintMore
attribute [local go_sem] max2_int min2_int max_two min_two max_three min_three max_four min_four   -- for this text's walks alone

def impl_isPlace.f (a0 : Int) (a1 : Int) : Option (Bool) := (impl_within.f a0 0 60).bind fun t219 => (if t219 = true then ((impl_within.f a1 (-100000) 100000).bind fun t220 => (some t220)) else (some false))
set_option maxHeartbeats 8000000 in
set_option maxRecDepth 100000 in
theorem impl_isPlace.calls (a0 : Int) (a1 : Int) (r : Bool) (w : World) (h : impl_isPlace.f a0 a1 = some r) :
  Calls Try.prog 54 #[.int .i64 a0, .int .i64 a1] w fun e w' => e = .returned (.bool r) ∧ Drawn0 w w' := by
 have H : ((impl_within.f a0 0 60).bind fun t219 => (if t219 = true then ((impl_within.f a1 (-100000) 100000).bind fun t220 => (some t220)) else (some false))) = some r := h
 clear h
 replace H := Option.bind_eq_some_iff.mp H
 obtain ⟨t219, A30, H⟩ := H
 replace H : (if t219 = true then ((impl_within.f a1 (-100000) 100000).bind fun t220 => (some t220)) else (some false)) = some r := H
 have A3 := Aside0.mk A30
 clear A30
 by_cases c4 : t219 = true
 ·subst c4
  have H1 : ((impl_within.f a1 (-100000) 100000).bind fun t220 => (some t220)) = some r := by rw [if_pos rfl] at H; exact H
  clear H
  have H := H1
  clear H1
  replace H := Option.bind_eq_some_iff.mp H
  obtain ⟨t220, A50, H⟩ := H
  replace H : (some t220) = some r := H
  have A5 := Aside0.mk A50
  clear A50
  obtain rfl := Option.some.inj H
  go_enter Try.func54, Try.ntmps54
  go_wp2_with (first | ((with_reducible refine gate_callee (f := 66) rfl ?_); refine goesL_ (some 6) rfl rfl Try.func66 (by kernel_rfl) rfl #[.int .i64 a0, .int .i64 0, .int .i64 60] rfl (by (try simp only [List.map_toArray, List.map_cons, List.map_nil]); first | done | rfl) ?_; (with_reducible refine (impl_within.calls a0 0 60 true _ A3.out).mono ?_); rintro e w' ⟨rfl, ⟨nd, rfl⟩⟩; refine ⟨_, rfl, ?_⟩) | (go_at_call 66; (with_reducible refine (impl_within.calls a1 (-100000) 100000 t220 _ A5.out).mono ?_); rintro e w' ⟨rfl, ⟨nd, rfl⟩⟩))
  go_ret
  exact ⟨by first | rfl | (simp; done) | (simp [*]; done) | (simp [Int.tdiv_eq_ediv_of_nonneg, *]; done), by repeat (first | exact Drawn0.refl _ | apply Drawn0.step)⟩
 ·replace c4 := Bool.eq_false_iff.mpr c4
  subst c4
  have H1 : (some false) = some r := by rw [if_neg (show ¬ (false = true) by decide)] at H; exact H
  clear H
  have H := H1
  clear H1
  obtain rfl := Option.some.inj H
  go_enter Try.func54, Try.ntmps54
  go_wp2_with (first | ((with_reducible refine gate_callee (f := 66) rfl ?_); refine goesL_ (some 6) rfl rfl Try.func66 (by kernel_rfl) rfl #[.int .i64 a0, .int .i64 0, .int .i64 60] rfl (by (try simp only [List.map_toArray, List.map_cons, List.map_nil]); first | done | rfl) ?_; (with_reducible refine (impl_within.calls a0 0 60 false _ A3.out).mono ?_); rintro e w' ⟨rfl, ⟨nd, rfl⟩⟩; refine ⟨_, rfl, ?_⟩))
  go_ret
  exact ⟨by first | rfl | (simp; done) | (simp [*]; done) | (simp [Int.tdiv_eq_ediv_of_nonneg, *]; done), by repeat (first | exact Drawn0.refl _ | apply Drawn0.step)⟩

end Go.Proofs.Ytgfpbiaocokdeaa.P
namespace Go.Proofs.Ytgfpbiaocokdeaa.P
open Go.RowKit Go.Proofs.YtgfpbiaocokdeaaW.PrintWords Go.Proofs.YtgfpbiaocokdeaaW.PrintLast Go.Proofs.YtgfpbiaocokdeaaW.PrintMore
attribute [local go_sem] max2_int min2_int max_two min_two max_three min_three max_four min_four   -- for this text's walks alone

def impl_FaceOf.f (k : Nat) (l0_0 : List Int) (l0_1 : List (S59)) (a1 : Int) (a2 : Int) : Option (List Int × Bool) := (impl_ValidGround.f k l0_0 l0_1).bind fun t269 => (if t269 = true then ((impl_isPlace.f a1 a2).bind fun t270 => (if t270 = true then ((impl_Ground_face.f k l0_0 l0_1 a1 a2).bind fun t271 => (some (t271, true))) else (some (([] : List Int), false)))) else (some (([] : List Int), false)))
set_option maxHeartbeats 8000000 in
set_option maxRecDepth 100000 in
theorem impl_FaceOf.calls (k : Nat) (A0_0 : Option Addr) (c0_0 : Nat) (l0_0 : List Int) (A0_1 : Option Addr) (c0_1 : Nat) (l0_1 : List (S59)) (a1 : Int) (a2 : Int) (r1 : List Int) (r2 : Bool) (w : World) (hr0_0 : Kd.C (Kd.int .i64) w A0_0 l0_0.length l0_0) (hc0_0 : l0_0.length ≤ c0_0) (hr0_1 : Kd.C k59 w A0_1 l0_1.length l0_1) (hc0_1 : l0_1.length ≤ c0_1) (h : impl_FaceOf.f k l0_0 l0_1 a1 a2 = some (r1, r2)) :
  Calls Try.prog 13 #[.agg #[.slice A0_0 l0_0.length c0_0, .slice A0_1 l0_1.length c0_1], .int .i64 a1, .int .i64 a2] w fun e w' => ∃ v0_ : Value, e = .returned (.tuple #[v0_, .bool r2]) ∧ Kd.R (Kd.int .i64) 2 w' w.heap.size (fun _ => True) v0_ r1 ∧ Below w.heap.size w w' := by
 have hu31 := Try.underlying31
 have HR0_0 := Aside0.mk hr0_0
 have HC0_0 := Aside0.mk hc0_0
 clear hr0_0 hc0_0
 have HR0_1 := Aside0.mk hr0_1
 have HC0_1 := Aside0.mk hc0_1
 clear hr0_1 hc0_1
 have HB := Aside0.mk (Below.refl w.heap.size w)
 have H : ((impl_ValidGround.f k l0_0 l0_1).bind fun t269 => (if t269 = true then ((impl_isPlace.f a1 a2).bind fun t270 => (if t270 = true then ((impl_Ground_face.f k l0_0 l0_1 a1 a2).bind fun t271 => (some (t271, true))) else (some (([] : List Int), false)))) else (some (([] : List Int), false)))) = some (r1, r2) := h
 clear h
 replace H := Option.bind_eq_some_iff.mp H
 obtain ⟨t269, A40, H⟩ := H
 replace H : (if t269 = true then ((impl_isPlace.f a1 a2).bind fun t270 => (if t270 = true then ((impl_Ground_face.f k l0_0 l0_1 a1 a2).bind fun t271 => (some (t271, true))) else (some (([] : List Int), false)))) else (some (([] : List Int), false))) = some (r1, r2) := H
 have A4 := Aside0.mk A40
 clear A40
 by_cases c5 : t269 = true
 ·subst c5
  have H1 : ((impl_isPlace.f a1 a2).bind fun t270 => (if t270 = true then ((impl_Ground_face.f k l0_0 l0_1 a1 a2).bind fun t271 => (some (t271, true))) else (some (([] : List Int), false)))) = some (r1, r2) := by rw [if_pos rfl] at H; exact H
  clear H
  have H := H1
  clear H1
  replace H := Option.bind_eq_some_iff.mp H
  obtain ⟨t270, A60, H⟩ := H
  replace H : (if t270 = true then ((impl_Ground_face.f k l0_0 l0_1 a1 a2).bind fun t271 => (some (t271, true))) else (some (([] : List Int), false))) = some (r1, r2) := H
  have A6 := Aside0.mk A60
  clear A60
  by_cases c7 : t270 = true
  ·subst c7
   have H1 : ((impl_Ground_face.f k l0_0 l0_1 a1 a2).bind fun t271 => (some (t271, true))) = some (r1, r2) := by rw [if_pos rfl] at H; exact H
   clear H
   have H := H1
   clear H1
   replace H := Option.bind_eq_some_iff.mp H
   obtain ⟨t271, A80, H⟩ := H
   replace H : (some (t271, true)) = some (r1, r2) := H
   have A8 := Aside0.mk A80
   clear A80
   simp only [Option.some.injEq, Prod.mk.injEq] at H
   obtain ⟨rfl, rfl⟩ := H
   go_enter Try.func13, Try.ntmps13
   go_wp2_with (first | ((with_reducible refine gate_dst (N := 3) rfl ?_); refine box_event ?hg (N := 3) ?hd (cs := #[.slice A0_0 l0_0.length c0_0, .slice A0_1 l0_1.length c0_1]) (t := 31) ?hr ?_; (case hd => rfl); (case hg => rfl); (case hr => first | (go_simp; done) | (go_simp; rfl)); intro gb268 hg w9 hbox hb; have n0_ := Aside0.mk (below_step (by repeat (first | (with_reducible first | exact HB.out | apply below_alloc | apply pw_below_drewN | apply below_drew1) | exact HB.out)) hb); have n1_ := Aside0.mk (hbox); have n2_ := Aside0.mk ((by rw [hg]; exact (below_size (by repeat (first | (with_reducible first | exact HB.out | apply below_alloc | apply pw_below_drewN | apply below_drew1) | exact HB.out))) : w.heap.size ≤ gb268)); have n3_ := Aside0.mk ((by rw [hg]; exact (below_size (by repeat (first | (with_reducible first | exact HB.out | apply below_alloc | apply pw_below_drewN | apply below_drew1) | exact HB.out))) : w.heap.size ≤ gb268)); clear HB; have HB := n0_; have BK268 := n1_; have GW268 := n2_; have GE268 := n3_; clear n0_ n1_ n2_ n3_; clear hb hbox hg; have hcz10_0 : w9.cell? ⟨gb268, 0, none⟩ = some (.slice A0_0 l0_0.length c0_0) := (blk_cell BK268.out 0).trans rfl; have hcz10_1 : w9.cell? ⟨gb268, 1, none⟩ = some (.slice A0_1 l0_1.length c0_1) := (blk_cell BK268.out 1).trans rfl; have hfz10_0 := blk_frozen BK268.out 0; have hfz10_1 := blk_frozen BK268.out 1) | ((with_reducible refine gate_callee (f := 53) rfl ?_); refine goesL_ (some 9) rfl rfl Try.func53 (by kernel_rfl) rfl #[.agg #[.slice A0_0 l0_0.length c0_0, .slice A0_1 l0_1.length c0_1]] rfl (by (try simp only [List.map_toArray, List.map_cons, List.map_nil]); first | done | rfl) ?_; (with_reducible refine (impl_ValidGround.calls k _ _ l0_0 _ _ l0_1 true _ ?side1 ?side2 ?side3 ?side4 A4.out).mono ?_); (case side1 => repeat (first | exact (Kd.C_below HR0_0.out HB.out) | (with_reducible first | refine Kd.C_alloc ?_ _ | refine Kd.C_drewN ?_ _ | refine Kd.C_drew ?_))); (case side2 => exact HC0_0.out); (case side3 => repeat (first | exact (Kd.C_below HR0_1.out HB.out) | (with_reducible first | refine Kd.C_alloc ?_ _ | refine Kd.C_drewN ?_ _ | refine Kd.C_drew ?_))); (case side4 => exact HC0_1.out); rintro e w11 ⟨rfl, hb⟩; refine ⟨_, rfl, ?_⟩; have n0_ := Aside0.mk (blk_below (g := gb268) (o := .cells #[.slice A0_0 l0_0.length c0_0, .slice A0_1 l0_1.length c0_1] 31 (0, 0)) (by (with_reducible repeat (first | refine blk_drewN ?_ _ | refine blk_drew ?_ | refine blk_alloc ?_ _)); exact BK268.out) hb); have n1_ := Aside0.mk (below_step (by repeat (first | (with_reducible first | exact HB.out | apply below_alloc | apply pw_below_drewN | apply below_drew1 | refine below_set ?_ GE268.out) | exact HB.out)) hb); clear BK268; clear HB; have BK268 := n0_; have HB := n1_; clear n0_ n1_; (try clear hb); (try clear hb2); (try clear hk); (try clear hi)) | (go_at_call 54; (with_reducible refine (impl_isPlace.calls a1 a2 true _ A6.out).mono ?_); rintro e w' ⟨rfl, ⟨nd, rfl⟩⟩; have hcz12_0 : w11.cell? ⟨gb268, 0, none⟩ = some (.slice A0_0 l0_0.length c0_0) := (blk_cell BK268.out 0).trans rfl; have hcz12_1 : w11.cell? ⟨gb268, 1, none⟩ = some (.slice A0_1 l0_1.length c0_1) := (blk_cell BK268.out 1).trans rfl; have hfz12_0 := blk_frozen BK268.out 0; have hfz12_1 := blk_frozen BK268.out 1) | ((with_reducible refine gate_callee (f := 55) rfl ?_); refine goesL_ (some 20) rfl rfl Try.func55 (by kernel_rfl) rfl #[.agg #[.slice A0_0 l0_0.length c0_0, .slice A0_1 l0_1.length c0_1], .int .i64 a1, .int .i64 a2] rfl (by (try simp only [List.map_toArray, List.map_cons, List.map_nil]); first | done | rfl) ?_; (with_reducible refine (impl_Ground_face.calls k _ _ l0_0 _ _ l0_1 a1 a2 t271 _ ?side1 ?side2 ?side3 ?side4 A8.out).mono ?_); (case side1 => repeat (first | exact (Kd.C_below HR0_0.out (by repeat (first | (with_reducible first | exact HB.out | apply below_alloc | apply pw_below_drewN | apply below_drew1 | refine below_set ?_ GE268.out) | exact HB.out))) | (with_reducible first | refine Kd.C_alloc ?_ _ | refine Kd.C_drewN ?_ _ | refine Kd.C_drew ?_))); (case side2 => exact HC0_0.out); (case side3 => repeat (first | exact (Kd.C_below HR0_1.out (by repeat (first | (with_reducible first | exact HB.out | apply below_alloc | apply pw_below_drewN | apply below_drew1 | refine below_set ?_ GE268.out) | exact HB.out))) | (with_reducible first | refine Kd.C_alloc ?_ _ | refine Kd.C_drewN ?_ _ | refine Kd.C_drew ?_))); (case side4 => exact HC0_1.out); rintro e w13 ⟨v272, rfl, ho0, hb⟩; refine ⟨_, rfl, ?_⟩; have n0_ := Aside0.mk (Kd.R_lower ho0 (below_size (by repeat (first | (with_reducible first | exact HB.out | apply below_alloc | apply pw_below_drewN | apply below_drew1 | refine below_set ?_ GE268.out) | exact HB.out)))); have n1_ := Aside0.mk (blk_below (g := gb268) (o := .cells #[.slice A0_0 l0_0.length c0_0, .slice A0_1 l0_1.length c0_1] 31 (0, 0)) (by (with_reducible repeat (first | refine blk_drewN ?_ _ | refine blk_drew ?_ | refine blk_alloc ?_ _)); exact BK268.out) hb); have n2_ := Aside0.mk (below_step (by repeat (first | (with_reducible first | exact HB.out | apply below_alloc | apply pw_below_drewN | apply below_drew1 | refine below_set ?_ GE268.out) | exact HB.out)) hb); clear BK268; clear HB; have HO273 := n0_; have BK268 := n1_; have HB := n2_; clear n0_ n1_ n2_; (try clear hb); (try clear hb2); (try clear hk); (try clear hi); (try clear ho0)))
   go_ret2
   exact ⟨_, by first | rfl | (simp [errW_none, errW_some] <;> rfl) | (simp [*, errW_none, errW_some] <;> rfl) | (simp [Int.tdiv_eq_ediv_of_nonneg, *]; done), by (with_reducible repeat (first | apply Kd.R_alloc | apply Kd.R_drewN | apply Kd.R_drew)); exact HO273.out, by repeat (first | (with_reducible first | exact HB.out | apply below_alloc | apply pw_below_drewN | apply below_drew1 | refine below_set ?_ GE268.out) | exact HB.out)⟩
  ·replace c7 := Bool.eq_false_iff.mpr c7
   subst c7
   have H1 : (some (([] : List Int), false)) = some (r1, r2) := by rw [if_neg (show ¬ (false = true) by decide)] at H; exact H
   clear H
   have H := H1
   clear H1
   simp only [Option.some.injEq, Prod.mk.injEq] at H
   obtain ⟨rfl, rfl⟩ := H
   go_enter Try.func13, Try.ntmps13
   go_wp2_with (first | ((with_reducible refine gate_dst (N := 3) rfl ?_); refine box_event ?hg (N := 3) ?hd (cs := #[.slice A0_0 l0_0.length c0_0, .slice A0_1 l0_1.length c0_1]) (t := 31) ?hr ?_; (case hd => rfl); (case hg => rfl); (case hr => first | (go_simp; done) | (go_simp; rfl)); intro gb268 hg w14 hbox hb; have n0_ := Aside0.mk (below_step (by repeat (first | (with_reducible first | exact HB.out | apply below_alloc | apply pw_below_drewN | apply below_drew1) | exact HB.out)) hb); have n1_ := Aside0.mk (hbox); have n2_ := Aside0.mk ((by rw [hg]; exact (below_size (by repeat (first | (with_reducible first | exact HB.out | apply below_alloc | apply pw_below_drewN | apply below_drew1) | exact HB.out))) : w.heap.size ≤ gb268)); have n3_ := Aside0.mk ((by rw [hg]; exact (below_size (by repeat (first | (with_reducible first | exact HB.out | apply below_alloc | apply pw_below_drewN | apply below_drew1) | exact HB.out))) : w.heap.size ≤ gb268)); clear HB; have HB := n0_; have BK268 := n1_; have GW268 := n2_; have GE268 := n3_; clear n0_ n1_ n2_ n3_; clear hb hbox hg; have hcz15_0 : w14.cell? ⟨gb268, 0, none⟩ = some (.slice A0_0 l0_0.length c0_0) := (blk_cell BK268.out 0).trans rfl; have hcz15_1 : w14.cell? ⟨gb268, 1, none⟩ = some (.slice A0_1 l0_1.length c0_1) := (blk_cell BK268.out 1).trans rfl; have hfz15_0 := blk_frozen BK268.out 0; have hfz15_1 := blk_frozen BK268.out 1) | ((with_reducible refine gate_callee (f := 53) rfl ?_); refine goesL_ (some 9) rfl rfl Try.func53 (by kernel_rfl) rfl #[.agg #[.slice A0_0 l0_0.length c0_0, .slice A0_1 l0_1.length c0_1]] rfl (by (try simp only [List.map_toArray, List.map_cons, List.map_nil]); first | done | rfl) ?_; (with_reducible refine (impl_ValidGround.calls k _ _ l0_0 _ _ l0_1 true _ ?side1 ?side2 ?side3 ?side4 A4.out).mono ?_); (case side1 => repeat (first | exact (Kd.C_below HR0_0.out HB.out) | (with_reducible first | refine Kd.C_alloc ?_ _ | refine Kd.C_drewN ?_ _ | refine Kd.C_drew ?_))); (case side2 => exact HC0_0.out); (case side3 => repeat (first | exact (Kd.C_below HR0_1.out HB.out) | (with_reducible first | refine Kd.C_alloc ?_ _ | refine Kd.C_drewN ?_ _ | refine Kd.C_drew ?_))); (case side4 => exact HC0_1.out); rintro e w16 ⟨rfl, hb⟩; refine ⟨_, rfl, ?_⟩; have n0_ := Aside0.mk (blk_below (g := gb268) (o := .cells #[.slice A0_0 l0_0.length c0_0, .slice A0_1 l0_1.length c0_1] 31 (0, 0)) (by (with_reducible repeat (first | refine blk_drewN ?_ _ | refine blk_drew ?_ | refine blk_alloc ?_ _)); exact BK268.out) hb); have n1_ := Aside0.mk (below_step (by repeat (first | (with_reducible first | exact HB.out | apply below_alloc | apply pw_below_drewN | apply below_drew1 | refine below_set ?_ GE268.out) | exact HB.out)) hb); clear BK268; clear HB; have BK268 := n0_; have HB := n1_; clear n0_ n1_; (try clear hb); (try clear hb2); (try clear hk); (try clear hi)) | (go_at_call 54; (with_reducible refine (impl_isPlace.calls a1 a2 false _ A6.out).mono ?_); rintro e w' ⟨rfl, ⟨nd, rfl⟩⟩))
   go_ret2
   exact ⟨_, by first | rfl | (simp [errW_none, errW_some] <;> rfl) | (simp [*, errW_none, errW_some] <;> rfl) | (simp [Int.tdiv_eq_ediv_of_nonneg, *]; done), by first | exact Kd.R_nil _ _ _ _ _ | exact Kd.N_nil _ _ _ _ _ | exact Kd.V_nil _ _ _ _ _ | exact Kd.Q_nil _ _ _ _ _ | exact Kd.S_nil _ _ _ _ _, by repeat (first | (with_reducible first | exact HB.out | apply below_alloc | apply pw_below_drewN | apply below_drew1 | refine below_set ?_ GE268.out) | exact HB.out)⟩
 ·replace c5 := Bool.eq_false_iff.mpr c5
  subst c5
  have H1 : (some (([] : List Int), false)) = some (r1, r2) := by rw [if_neg (show ¬ (false = true) by decide)] at H; exact H
  clear H
  have H := H1
  clear H1
  simp only [Option.some.injEq, Prod.mk.injEq] at H
  obtain ⟨rfl, rfl⟩ := H
  go_enter Try.func13, Try.ntmps13
  go_wp2_with (first | ((with_reducible refine gate_dst (N := 3) rfl ?_); refine box_event ?hg (N := 3) ?hd (cs := #[.slice A0_0 l0_0.length c0_0, .slice A0_1 l0_1.length c0_1]) (t := 31) ?hr ?_; (case hd => rfl); (case hg => rfl); (case hr => first | (go_simp; done) | (go_simp; rfl)); intro gb268 hg w17 hbox hb; have n0_ := Aside0.mk (below_step (by repeat (first | (with_reducible first | exact HB.out | apply below_alloc | apply pw_below_drewN | apply below_drew1) | exact HB.out)) hb); have n1_ := Aside0.mk (hbox); have n2_ := Aside0.mk ((by rw [hg]; exact (below_size (by repeat (first | (with_reducible first | exact HB.out | apply below_alloc | apply pw_below_drewN | apply below_drew1) | exact HB.out))) : w.heap.size ≤ gb268)); have n3_ := Aside0.mk ((by rw [hg]; exact (below_size (by repeat (first | (with_reducible first | exact HB.out | apply below_alloc | apply pw_below_drewN | apply below_drew1) | exact HB.out))) : w.heap.size ≤ gb268)); clear HB; have HB := n0_; have BK268 := n1_; have GW268 := n2_; have GE268 := n3_; clear n0_ n1_ n2_ n3_; clear hb hbox hg; have hcz18_0 : w17.cell? ⟨gb268, 0, none⟩ = some (.slice A0_0 l0_0.length c0_0) := (blk_cell BK268.out 0).trans rfl; have hcz18_1 : w17.cell? ⟨gb268, 1, none⟩ = some (.slice A0_1 l0_1.length c0_1) := (blk_cell BK268.out 1).trans rfl; have hfz18_0 := blk_frozen BK268.out 0; have hfz18_1 := blk_frozen BK268.out 1) | ((with_reducible refine gate_callee (f := 53) rfl ?_); refine goesL_ (some 9) rfl rfl Try.func53 (by kernel_rfl) rfl #[.agg #[.slice A0_0 l0_0.length c0_0, .slice A0_1 l0_1.length c0_1]] rfl (by (try simp only [List.map_toArray, List.map_cons, List.map_nil]); first | done | rfl) ?_; (with_reducible refine (impl_ValidGround.calls k _ _ l0_0 _ _ l0_1 false _ ?side1 ?side2 ?side3 ?side4 A4.out).mono ?_); (case side1 => repeat (first | exact (Kd.C_below HR0_0.out HB.out) | (with_reducible first | refine Kd.C_alloc ?_ _ | refine Kd.C_drewN ?_ _ | refine Kd.C_drew ?_))); (case side2 => exact HC0_0.out); (case side3 => repeat (first | exact (Kd.C_below HR0_1.out HB.out) | (with_reducible first | refine Kd.C_alloc ?_ _ | refine Kd.C_drewN ?_ _ | refine Kd.C_drew ?_))); (case side4 => exact HC0_1.out); rintro e w19 ⟨rfl, hb⟩; refine ⟨_, rfl, ?_⟩; have n0_ := Aside0.mk (blk_below (g := gb268) (o := .cells #[.slice A0_0 l0_0.length c0_0, .slice A0_1 l0_1.length c0_1] 31 (0, 0)) (by (with_reducible repeat (first | refine blk_drewN ?_ _ | refine blk_drew ?_ | refine blk_alloc ?_ _)); exact BK268.out) hb); have n1_ := Aside0.mk (below_step (by repeat (first | (with_reducible first | exact HB.out | apply below_alloc | apply pw_below_drewN | apply below_drew1 | refine below_set ?_ GE268.out) | exact HB.out)) hb); clear BK268; clear HB; have BK268 := n0_; have HB := n1_; clear n0_ n1_; (try clear hb); (try clear hb2); (try clear hk); (try clear hi)))
  go_ret2
  exact ⟨_, by first | rfl | (simp [errW_none, errW_some] <;> rfl) | (simp [*, errW_none, errW_some] <;> rfl) | (simp [Int.tdiv_eq_ediv_of_nonneg, *]; done), by first | exact Kd.R_nil _ _ _ _ _ | exact Kd.N_nil _ _ _ _ _ | exact Kd.V_nil _ _ _ _ _ | exact Kd.Q_nil _ _ _ _ _ | exact Kd.S_nil _ _ _ _ _, by repeat (first | (with_reducible first | exact HB.out | apply below_alloc | apply pw_below_drewN | apply below_drew1 | refine below_set ?_ GE268.out) | exact HB.out)⟩

end Go.Proofs.Ytgfpbiaocokdeaa.P
namespace Go.Proofs.Ytgfpbiaocokdeaa.P
open Go.RowKit Go.Proofs.YtgfpbiaocokdeaaW.PrintWords Go.Proofs.YtgfpbiaocokdeaaW.PrintLast Go.Proofs.YtgfpbiaocokdeaaW.PrintMore
attribute [local go_sem] max2_int min2_int max_two min_two max_three min_three max_four min_four   -- for this text's walks alone

def spec_FaceOf.f (k : Nat) (l0_0 : List Int) (l0_1 : List (S59)) (a1 : Int) (a2 : Int) : Option (List Int × Bool) := (spec_l06Is.f k l0_0 l0_1).bind fun t171 => (if t171 = true then ((spec_l06Ring.f a1).bind fun t172 => (if t172 = true then ((spec_l06Height.f a2).bind fun t173 => (if t173 = true then ((spec_l06Face.f k l0_0 l0_1 a1 a2).bind fun t174 => (some (t174, true))) else (some (([] : List Int), false)))) else (some (([] : List Int), false)))) else (some (([] : List Int), false)))
set_option maxHeartbeats 8000000 in
set_option maxRecDepth 100000 in
theorem spec_FaceOf.calls (k : Nat) (A0_0 : Option Addr) (c0_0 : Nat) (l0_0 : List Int) (A0_1 : Option Addr) (c0_1 : Nat) (l0_1 : List (S59)) (a1 : Int) (a2 : Int) (r1 : List Int) (r2 : Bool) (w : World) (hr0_0 : Kd.C (Kd.int .i64) w A0_0 l0_0.length l0_0) (hc0_0 : l0_0.length ≤ c0_0) (hr0_1 : Kd.C k59 w A0_1 l0_1.length l0_1) (hc0_1 : l0_1.length ≤ c0_1) (h : spec_FaceOf.f k l0_0 l0_1 a1 a2 = some (r1, r2)) :
  Calls Try.prog 11 #[.agg #[.slice A0_0 l0_0.length c0_0, .slice A0_1 l0_1.length c0_1], .int .i64 a1, .int .i64 a2] w fun e w' => ∃ v0_ : Value, e = .returned (.tuple #[v0_, .bool r2]) ∧ Kd.R (Kd.int .i64) 2 w' w.heap.size (fun _ => True) v0_ r1 ∧ Below w.heap.size w w' := by
 have hu31 := Try.underlying31
 have HR0_0 := Aside0.mk hr0_0
 have HC0_0 := Aside0.mk hc0_0
 clear hr0_0 hc0_0
 have HR0_1 := Aside0.mk hr0_1
 have HC0_1 := Aside0.mk hc0_1
 clear hr0_1 hc0_1
 have HB := Aside0.mk (Below.refl w.heap.size w)
 have H : ((spec_l06Is.f k l0_0 l0_1).bind fun t171 => (if t171 = true then ((spec_l06Ring.f a1).bind fun t172 => (if t172 = true then ((spec_l06Height.f a2).bind fun t173 => (if t173 = true then ((spec_l06Face.f k l0_0 l0_1 a1 a2).bind fun t174 => (some (t174, true))) else (some (([] : List Int), false)))) else (some (([] : List Int), false)))) else (some (([] : List Int), false)))) = some (r1, r2) := h
 clear h
 replace H := Option.bind_eq_some_iff.mp H
 obtain ⟨t171, A40, H⟩ := H
 replace H : (if t171 = true then ((spec_l06Ring.f a1).bind fun t172 => (if t172 = true then ((spec_l06Height.f a2).bind fun t173 => (if t173 = true then ((spec_l06Face.f k l0_0 l0_1 a1 a2).bind fun t174 => (some (t174, true))) else (some (([] : List Int), false)))) else (some (([] : List Int), false)))) else (some (([] : List Int), false))) = some (r1, r2) := H
 have A4 := Aside0.mk A40
 clear A40
 by_cases c5 : t171 = true
 ·subst c5
  have H1 : ((spec_l06Ring.f a1).bind fun t172 => (if t172 = true then ((spec_l06Height.f a2).bind fun t173 => (if t173 = true then ((spec_l06Face.f k l0_0 l0_1 a1 a2).bind fun t174 => (some (t174, true))) else (some (([] : List Int), false)))) else (some (([] : List Int), false)))) = some (r1, r2) := by rw [if_pos rfl] at H; exact H
  clear H
  have H := H1
  clear H1
  replace H := Option.bind_eq_some_iff.mp H
  obtain ⟨t172, A60, H⟩ := H
  replace H : (if t172 = true then ((spec_l06Height.f a2).bind fun t173 => (if t173 = true then ((spec_l06Face.f k l0_0 l0_1 a1 a2).bind fun t174 => (some (t174, true))) else (some (([] : List Int), false)))) else (some (([] : List Int), false))) = some (r1, r2) := H
  have A6 := Aside0.mk A60
  clear A60
  by_cases c7 : t172 = true
  ·subst c7
   have H1 : ((spec_l06Height.f a2).bind fun t173 => (if t173 = true then ((spec_l06Face.f k l0_0 l0_1 a1 a2).bind fun t174 => (some (t174, true))) else (some (([] : List Int), false)))) = some (r1, r2) := by rw [if_pos rfl] at H; exact H
   clear H
   have H := H1
   clear H1
   replace H := Option.bind_eq_some_iff.mp H
   obtain ⟨t173, A80, H⟩ := H
   replace H : (if t173 = true then ((spec_l06Face.f k l0_0 l0_1 a1 a2).bind fun t174 => (some (t174, true))) else (some (([] : List Int), false))) = some (r1, r2) := H
   have A8 := Aside0.mk A80
   clear A80
   by_cases c9 : t173 = true
   ·subst c9
    have H1 : ((spec_l06Face.f k l0_0 l0_1 a1 a2).bind fun t174 => (some (t174, true))) = some (r1, r2) := by rw [if_pos rfl] at H; exact H
    clear H
    have H := H1
    clear H1
    replace H := Option.bind_eq_some_iff.mp H
    obtain ⟨t174, A100, H⟩ := H
    replace H : (some (t174, true)) = some (r1, r2) := H
    have A10 := Aside0.mk A100
    clear A100
    simp only [Option.some.injEq, Prod.mk.injEq] at H
    obtain ⟨rfl, rfl⟩ := H
    go_enter Try.func11, Try.ntmps11
    go_wp2_with (first | ((with_reducible refine gate_dst (N := 3) rfl ?_); refine box_event ?hg (N := 3) ?hd (cs := #[.slice A0_0 l0_0.length c0_0, .slice A0_1 l0_1.length c0_1]) (t := 31) ?hr ?_; (case hd => rfl); (case hg => rfl); (case hr => first | (go_simp; done) | (go_simp; rfl)); intro gb170 hg w11 hbox hb; have n0_ := Aside0.mk (below_step (by repeat (first | (with_reducible first | exact HB.out | apply below_alloc | apply pw_below_drewN | apply below_drew1) | exact HB.out)) hb); have n1_ := Aside0.mk (hbox); have n2_ := Aside0.mk ((by rw [hg]; exact (below_size (by repeat (first | (with_reducible first | exact HB.out | apply below_alloc | apply pw_below_drewN | apply below_drew1) | exact HB.out))) : w.heap.size ≤ gb170)); have n3_ := Aside0.mk ((by rw [hg]; exact (below_size (by repeat (first | (with_reducible first | exact HB.out | apply below_alloc | apply pw_below_drewN | apply below_drew1) | exact HB.out))) : w.heap.size ≤ gb170)); clear HB; have HB := n0_; have BK170 := n1_; have GW170 := n2_; have GE170 := n3_; clear n0_ n1_ n2_ n3_; clear hb hbox hg) | ((with_reducible refine gate_callee (f := 47) rfl ?_); refine goesL_ (some 8) rfl rfl Try.func47 (by kernel_rfl) rfl #[.pointer (some ⟨gb170, 0, none⟩)] rfl (by (try simp only [List.map_toArray, List.map_cons, List.map_nil]); first | done | rfl | (simp only [List.length_drop, List.length_take]; rfl)) ?_; (with_reducible refine (spec_l06Is.calls k gb170 A0_0 c0_0 l0_0 A0_1 c0_1 l0_1 true _ ?side1 ?side2 ?side3 ?side4 ?side5 A4.out).mono ?_); (case side1 => repeat (first | exact (Kd.C_below HR0_0.out HB.out) | (with_reducible first | refine Kd.C_alloc ?_ _ | refine Kd.C_drewN ?_ _ | refine Kd.C_drew ?_))); (case side2 => exact HC0_0.out); (case side3 => repeat (first | exact (Kd.C_below HR0_1.out HB.out) | (with_reducible first | refine Kd.C_alloc ?_ _ | refine Kd.C_drewN ?_ _ | refine Kd.C_drew ?_))); (case side4 => exact HC0_1.out); (case side5 => exact (by (with_reducible repeat (first | refine blk_drewN ?_ _ | refine blk_drew ?_ | refine blk_alloc ?_ _)); exact BK170.out)); rintro e w12 ⟨rfl, hb⟩; refine ⟨_, rfl, ?_⟩; have n0_ := Aside0.mk (blk_below (g := gb170) (o := .cells #[.slice A0_0 l0_0.length c0_0, .slice A0_1 l0_1.length c0_1] 31 (0, 0)) (by (with_reducible repeat (first | refine blk_drewN ?_ _ | refine blk_drew ?_ | refine blk_alloc ?_ _)); exact BK170.out) hb); have n1_ := Aside0.mk (below_step (by repeat (first | (with_reducible first | exact HB.out | apply below_alloc | apply pw_below_drewN | apply below_drew1 | refine below_set ?_ GE170.out) | exact HB.out)) hb); clear BK170; clear HB; have BK170 := n0_; have HB := n1_; clear n0_ n1_; (try clear hb); (try clear hb2); (try clear hk); (try clear hi)) | (go_at_call 48; (with_reducible refine (spec_l06Ring.calls a1 true _ A6.out).mono ?_); rintro e w' ⟨rfl, ⟨nd, rfl⟩⟩) | (go_at_call 49; (with_reducible refine (spec_l06Height.calls a2 true _ A8.out).mono ?_); rintro e w' ⟨rfl, ⟨nd, rfl⟩⟩) | ((with_reducible refine gate_callee (f := 50) rfl ?_); refine goesL_ (some 22) rfl rfl Try.func50 (by kernel_rfl) rfl #[.pointer (some ⟨gb170, 0, none⟩), .int .i64 a1, .int .i64 a2] rfl (by (try simp only [List.map_toArray, List.map_cons, List.map_nil]); first | done | rfl | (simp only [List.length_drop, List.length_take]; rfl)) ?_; (with_reducible refine (spec_l06Face.calls k gb170 A0_0 c0_0 l0_0 A0_1 c0_1 l0_1 a1 a2 t174 _ ?side1 ?side2 ?side3 ?side4 ?side5 A10.out).mono ?_); (case side1 => repeat (first | exact (Kd.C_below HR0_0.out (by repeat (first | (with_reducible first | exact HB.out | apply below_alloc | apply pw_below_drewN | apply below_drew1 | refine below_set ?_ GE170.out) | exact HB.out))) | (with_reducible first | refine Kd.C_alloc ?_ _ | refine Kd.C_drewN ?_ _ | refine Kd.C_drew ?_))); (case side2 => exact HC0_0.out); (case side3 => repeat (first | exact (Kd.C_below HR0_1.out (by repeat (first | (with_reducible first | exact HB.out | apply below_alloc | apply pw_below_drewN | apply below_drew1 | refine below_set ?_ GE170.out) | exact HB.out))) | (with_reducible first | refine Kd.C_alloc ?_ _ | refine Kd.C_drewN ?_ _ | refine Kd.C_drew ?_))); (case side4 => exact HC0_1.out); (case side5 => exact (by (with_reducible repeat (first | refine blk_drewN ?_ _ | refine blk_drew ?_ | refine blk_alloc ?_ _)); exact BK170.out)); rintro e w13 ⟨v175, rfl, ho0, hb⟩; refine ⟨_, rfl, ?_⟩; have n0_ := Aside0.mk (Kd.R_lower ho0 (below_size (by repeat (first | (with_reducible first | exact HB.out | apply below_alloc | apply pw_below_drewN | apply below_drew1 | refine below_set ?_ GE170.out) | exact HB.out)))); have n1_ := Aside0.mk (blk_below (g := gb170) (o := .cells #[.slice A0_0 l0_0.length c0_0, .slice A0_1 l0_1.length c0_1] 31 (0, 0)) (by (with_reducible repeat (first | refine blk_drewN ?_ _ | refine blk_drew ?_ | refine blk_alloc ?_ _)); exact BK170.out) hb); have n2_ := Aside0.mk (below_step (by repeat (first | (with_reducible first | exact HB.out | apply below_alloc | apply pw_below_drewN | apply below_drew1 | refine below_set ?_ GE170.out) | exact HB.out)) hb); clear BK170; clear HB; have HO176 := n0_; have BK170 := n1_; have HB := n2_; clear n0_ n1_ n2_; (try clear hb); (try clear hb2); (try clear hk); (try clear hi); (try clear ho0)))
    go_ret2
    exact ⟨_, by first | rfl | (simp [errW_none, errW_some] <;> rfl) | (simp [*, errW_none, errW_some] <;> rfl) | (simp [Int.tdiv_eq_ediv_of_nonneg, *]; done), by (with_reducible repeat (first | apply Kd.R_alloc | apply Kd.R_drewN | apply Kd.R_drew)); exact HO176.out, by repeat (first | (with_reducible first | exact HB.out | apply below_alloc | apply pw_below_drewN | apply below_drew1 | refine below_set ?_ GE170.out) | exact HB.out)⟩
   ·replace c9 := Bool.eq_false_iff.mpr c9
    subst c9
    have H1 : (some (([] : List Int), false)) = some (r1, r2) := by rw [if_neg (show ¬ (false = true) by decide)] at H; exact H
    clear H
    have H := H1
    clear H1
    simp only [Option.some.injEq, Prod.mk.injEq] at H
    obtain ⟨rfl, rfl⟩ := H
    go_enter Try.func11, Try.ntmps11
    go_wp2_with (first | ((with_reducible refine gate_dst (N := 3) rfl ?_); refine box_event ?hg (N := 3) ?hd (cs := #[.slice A0_0 l0_0.length c0_0, .slice A0_1 l0_1.length c0_1]) (t := 31) ?hr ?_; (case hd => rfl); (case hg => rfl); (case hr => first | (go_simp; done) | (go_simp; rfl)); intro gb170 hg w14 hbox hb; have n0_ := Aside0.mk (below_step (by repeat (first | (with_reducible first | exact HB.out | apply below_alloc | apply pw_below_drewN | apply below_drew1) | exact HB.out)) hb); have n1_ := Aside0.mk (hbox); have n2_ := Aside0.mk ((by rw [hg]; exact (below_size (by repeat (first | (with_reducible first | exact HB.out | apply below_alloc | apply pw_below_drewN | apply below_drew1) | exact HB.out))) : w.heap.size ≤ gb170)); have n3_ := Aside0.mk ((by rw [hg]; exact (below_size (by repeat (first | (with_reducible first | exact HB.out | apply below_alloc | apply pw_below_drewN | apply below_drew1) | exact HB.out))) : w.heap.size ≤ gb170)); clear HB; have HB := n0_; have BK170 := n1_; have GW170 := n2_; have GE170 := n3_; clear n0_ n1_ n2_ n3_; clear hb hbox hg) | ((with_reducible refine gate_callee (f := 47) rfl ?_); refine goesL_ (some 8) rfl rfl Try.func47 (by kernel_rfl) rfl #[.pointer (some ⟨gb170, 0, none⟩)] rfl (by (try simp only [List.map_toArray, List.map_cons, List.map_nil]); first | done | rfl | (simp only [List.length_drop, List.length_take]; rfl)) ?_; (with_reducible refine (spec_l06Is.calls k gb170 A0_0 c0_0 l0_0 A0_1 c0_1 l0_1 true _ ?side1 ?side2 ?side3 ?side4 ?side5 A4.out).mono ?_); (case side1 => repeat (first | exact (Kd.C_below HR0_0.out HB.out) | (with_reducible first | refine Kd.C_alloc ?_ _ | refine Kd.C_drewN ?_ _ | refine Kd.C_drew ?_))); (case side2 => exact HC0_0.out); (case side3 => repeat (first | exact (Kd.C_below HR0_1.out HB.out) | (with_reducible first | refine Kd.C_alloc ?_ _ | refine Kd.C_drewN ?_ _ | refine Kd.C_drew ?_))); (case side4 => exact HC0_1.out); (case side5 => exact (by (with_reducible repeat (first | refine blk_drewN ?_ _ | refine blk_drew ?_ | refine blk_alloc ?_ _)); exact BK170.out)); rintro e w15 ⟨rfl, hb⟩; refine ⟨_, rfl, ?_⟩; have n0_ := Aside0.mk (blk_below (g := gb170) (o := .cells #[.slice A0_0 l0_0.length c0_0, .slice A0_1 l0_1.length c0_1] 31 (0, 0)) (by (with_reducible repeat (first | refine blk_drewN ?_ _ | refine blk_drew ?_ | refine blk_alloc ?_ _)); exact BK170.out) hb); have n1_ := Aside0.mk (below_step (by repeat (first | (with_reducible first | exact HB.out | apply below_alloc | apply pw_below_drewN | apply below_drew1 | refine below_set ?_ GE170.out) | exact HB.out)) hb); clear BK170; clear HB; have BK170 := n0_; have HB := n1_; clear n0_ n1_; (try clear hb); (try clear hb2); (try clear hk); (try clear hi)) | (go_at_call 48; (with_reducible refine (spec_l06Ring.calls a1 true _ A6.out).mono ?_); rintro e w' ⟨rfl, ⟨nd, rfl⟩⟩) | (go_at_call 49; (with_reducible refine (spec_l06Height.calls a2 false _ A8.out).mono ?_); rintro e w' ⟨rfl, ⟨nd, rfl⟩⟩))
    go_ret2
    exact ⟨_, by first | rfl | (simp [errW_none, errW_some] <;> rfl) | (simp [*, errW_none, errW_some] <;> rfl) | (simp [Int.tdiv_eq_ediv_of_nonneg, *]; done), by first | exact Kd.R_nil _ _ _ _ _ | exact Kd.N_nil _ _ _ _ _ | exact Kd.V_nil _ _ _ _ _ | exact Kd.Q_nil _ _ _ _ _ | exact Kd.S_nil _ _ _ _ _, by repeat (first | (with_reducible first | exact HB.out | apply below_alloc | apply pw_below_drewN | apply below_drew1 | refine below_set ?_ GE170.out) | exact HB.out)⟩
  ·replace c7 := Bool.eq_false_iff.mpr c7
   subst c7
   have H1 : (some (([] : List Int), false)) = some (r1, r2) := by rw [if_neg (show ¬ (false = true) by decide)] at H; exact H
   clear H
   have H := H1
   clear H1
   simp only [Option.some.injEq, Prod.mk.injEq] at H
   obtain ⟨rfl, rfl⟩ := H
   go_enter Try.func11, Try.ntmps11
   go_wp2_with (first | ((with_reducible refine gate_dst (N := 3) rfl ?_); refine box_event ?hg (N := 3) ?hd (cs := #[.slice A0_0 l0_0.length c0_0, .slice A0_1 l0_1.length c0_1]) (t := 31) ?hr ?_; (case hd => rfl); (case hg => rfl); (case hr => first | (go_simp; done) | (go_simp; rfl)); intro gb170 hg w16 hbox hb; have n0_ := Aside0.mk (below_step (by repeat (first | (with_reducible first | exact HB.out | apply below_alloc | apply pw_below_drewN | apply below_drew1) | exact HB.out)) hb); have n1_ := Aside0.mk (hbox); have n2_ := Aside0.mk ((by rw [hg]; exact (below_size (by repeat (first | (with_reducible first | exact HB.out | apply below_alloc | apply pw_below_drewN | apply below_drew1) | exact HB.out))) : w.heap.size ≤ gb170)); have n3_ := Aside0.mk ((by rw [hg]; exact (below_size (by repeat (first | (with_reducible first | exact HB.out | apply below_alloc | apply pw_below_drewN | apply below_drew1) | exact HB.out))) : w.heap.size ≤ gb170)); clear HB; have HB := n0_; have BK170 := n1_; have GW170 := n2_; have GE170 := n3_; clear n0_ n1_ n2_ n3_; clear hb hbox hg) | ((with_reducible refine gate_callee (f := 47) rfl ?_); refine goesL_ (some 8) rfl rfl Try.func47 (by kernel_rfl) rfl #[.pointer (some ⟨gb170, 0, none⟩)] rfl (by (try simp only [List.map_toArray, List.map_cons, List.map_nil]); first | done | rfl | (simp only [List.length_drop, List.length_take]; rfl)) ?_; (with_reducible refine (spec_l06Is.calls k gb170 A0_0 c0_0 l0_0 A0_1 c0_1 l0_1 true _ ?side1 ?side2 ?side3 ?side4 ?side5 A4.out).mono ?_); (case side1 => repeat (first | exact (Kd.C_below HR0_0.out HB.out) | (with_reducible first | refine Kd.C_alloc ?_ _ | refine Kd.C_drewN ?_ _ | refine Kd.C_drew ?_))); (case side2 => exact HC0_0.out); (case side3 => repeat (first | exact (Kd.C_below HR0_1.out HB.out) | (with_reducible first | refine Kd.C_alloc ?_ _ | refine Kd.C_drewN ?_ _ | refine Kd.C_drew ?_))); (case side4 => exact HC0_1.out); (case side5 => exact (by (with_reducible repeat (first | refine blk_drewN ?_ _ | refine blk_drew ?_ | refine blk_alloc ?_ _)); exact BK170.out)); rintro e w17 ⟨rfl, hb⟩; refine ⟨_, rfl, ?_⟩; have n0_ := Aside0.mk (blk_below (g := gb170) (o := .cells #[.slice A0_0 l0_0.length c0_0, .slice A0_1 l0_1.length c0_1] 31 (0, 0)) (by (with_reducible repeat (first | refine blk_drewN ?_ _ | refine blk_drew ?_ | refine blk_alloc ?_ _)); exact BK170.out) hb); have n1_ := Aside0.mk (below_step (by repeat (first | (with_reducible first | exact HB.out | apply below_alloc | apply pw_below_drewN | apply below_drew1 | refine below_set ?_ GE170.out) | exact HB.out)) hb); clear BK170; clear HB; have BK170 := n0_; have HB := n1_; clear n0_ n1_; (try clear hb); (try clear hb2); (try clear hk); (try clear hi)) | (go_at_call 48; (with_reducible refine (spec_l06Ring.calls a1 false _ A6.out).mono ?_); rintro e w' ⟨rfl, ⟨nd, rfl⟩⟩))
   go_ret2
   exact ⟨_, by first | rfl | (simp [errW_none, errW_some] <;> rfl) | (simp [*, errW_none, errW_some] <;> rfl) | (simp [Int.tdiv_eq_ediv_of_nonneg, *]; done), by first | exact Kd.R_nil _ _ _ _ _ | exact Kd.N_nil _ _ _ _ _ | exact Kd.V_nil _ _ _ _ _ | exact Kd.Q_nil _ _ _ _ _ | exact Kd.S_nil _ _ _ _ _, by repeat (first | (with_reducible first | exact HB.out | apply below_alloc | apply pw_below_drewN | apply below_drew1 | refine below_set ?_ GE170.out) | exact HB.out)⟩
 ·replace c5 := Bool.eq_false_iff.mpr c5
  subst c5
  have H1 : (some (([] : List Int), false)) = some (r1, r2) := by rw [if_neg (show ¬ (false = true) by decide)] at H; exact H
  clear H
  have H := H1
  clear H1
  simp only [Option.some.injEq, Prod.mk.injEq] at H
  obtain ⟨rfl, rfl⟩ := H
  go_enter Try.func11, Try.ntmps11
  go_wp2_with (first | ((with_reducible refine gate_dst (N := 3) rfl ?_); refine box_event ?hg (N := 3) ?hd (cs := #[.slice A0_0 l0_0.length c0_0, .slice A0_1 l0_1.length c0_1]) (t := 31) ?hr ?_; (case hd => rfl); (case hg => rfl); (case hr => first | (go_simp; done) | (go_simp; rfl)); intro gb170 hg w18 hbox hb; have n0_ := Aside0.mk (below_step (by repeat (first | (with_reducible first | exact HB.out | apply below_alloc | apply pw_below_drewN | apply below_drew1) | exact HB.out)) hb); have n1_ := Aside0.mk (hbox); have n2_ := Aside0.mk ((by rw [hg]; exact (below_size (by repeat (first | (with_reducible first | exact HB.out | apply below_alloc | apply pw_below_drewN | apply below_drew1) | exact HB.out))) : w.heap.size ≤ gb170)); have n3_ := Aside0.mk ((by rw [hg]; exact (below_size (by repeat (first | (with_reducible first | exact HB.out | apply below_alloc | apply pw_below_drewN | apply below_drew1) | exact HB.out))) : w.heap.size ≤ gb170)); clear HB; have HB := n0_; have BK170 := n1_; have GW170 := n2_; have GE170 := n3_; clear n0_ n1_ n2_ n3_; clear hb hbox hg) | ((with_reducible refine gate_callee (f := 47) rfl ?_); refine goesL_ (some 8) rfl rfl Try.func47 (by kernel_rfl) rfl #[.pointer (some ⟨gb170, 0, none⟩)] rfl (by (try simp only [List.map_toArray, List.map_cons, List.map_nil]); first | done | rfl | (simp only [List.length_drop, List.length_take]; rfl)) ?_; (with_reducible refine (spec_l06Is.calls k gb170 A0_0 c0_0 l0_0 A0_1 c0_1 l0_1 false _ ?side1 ?side2 ?side3 ?side4 ?side5 A4.out).mono ?_); (case side1 => repeat (first | exact (Kd.C_below HR0_0.out HB.out) | (with_reducible first | refine Kd.C_alloc ?_ _ | refine Kd.C_drewN ?_ _ | refine Kd.C_drew ?_))); (case side2 => exact HC0_0.out); (case side3 => repeat (first | exact (Kd.C_below HR0_1.out HB.out) | (with_reducible first | refine Kd.C_alloc ?_ _ | refine Kd.C_drewN ?_ _ | refine Kd.C_drew ?_))); (case side4 => exact HC0_1.out); (case side5 => exact (by (with_reducible repeat (first | refine blk_drewN ?_ _ | refine blk_drew ?_ | refine blk_alloc ?_ _)); exact BK170.out)); rintro e w19 ⟨rfl, hb⟩; refine ⟨_, rfl, ?_⟩; have n0_ := Aside0.mk (blk_below (g := gb170) (o := .cells #[.slice A0_0 l0_0.length c0_0, .slice A0_1 l0_1.length c0_1] 31 (0, 0)) (by (with_reducible repeat (first | refine blk_drewN ?_ _ | refine blk_drew ?_ | refine blk_alloc ?_ _)); exact BK170.out) hb); have n1_ := Aside0.mk (below_step (by repeat (first | (with_reducible first | exact HB.out | apply below_alloc | apply pw_below_drewN | apply below_drew1 | refine below_set ?_ GE170.out) | exact HB.out)) hb); clear BK170; clear HB; have BK170 := n0_; have HB := n1_; clear n0_ n1_; (try clear hb); (try clear hb2); (try clear hk); (try clear hi)))
  go_ret2
  exact ⟨_, by first | rfl | (simp [errW_none, errW_some] <;> rfl) | (simp [*, errW_none, errW_some] <;> rfl) | (simp [Int.tdiv_eq_ediv_of_nonneg, *]; done), by first | exact Kd.R_nil _ _ _ _ _ | exact Kd.N_nil _ _ _ _ _ | exact Kd.V_nil _ _ _ _ _ | exact Kd.Q_nil _ _ _ _ _ | exact Kd.S_nil _ _ _ _ _, by repeat (first | (with_reducible first | exact HB.out | apply below_alloc | apply pw_below_drewN | apply below_drew1 | refine below_set ?_ GE170.out) | exact HB.out)⟩

def laws_FnExactFaceOf.f (k : Nat) (l0_0 : List Int) (l0_1 : List S55) (a1 : Int) (a2 : Int) : Option (Bool) :=
 (laws_szGround.f k l0_0 l0_1 1048576).bind fun t0 => if t0 < 0 then some true else
 (laws_toGround.f k l0_0 l0_1).bind fun b0 =>
 (spec_FaceOf.f k b0.1 b0.2 a1 a2).bind fun bw => (impl_FaceOf.f k b0.1 b0.2 a1 a2).bind fun bg =>
 (laws_eqInt64S.f k bg.1 bw.1).bind fun te => if te = true then (if bg.2 = bw.2 then (
 (laws_eqGround.f k b0.1 b0.2 b0.1 b0.2).bind fun tq0 => if tq0 = true then (
 (laws_markGround.f k b0.1 b0.2 1).bind fun bm0 =>
 if bm0.1 < 0 then none else (laws_markInt64S.f k bg.1 1).bind fun bk => (laws_heldInt64S.f k bk.2 1).bind fun th => if th < 0 then none else if th = bk.1 then some true else none
 ) else none) else none) else none
set_option maxHeartbeats 8000000 in
set_option maxRecDepth 100000 in
theorem laws_FnExactFaceOf.calls (k : Nat) (A0_0 : Option Addr) (c0_0 : Nat) (l0_0 : List Int) (A0_1 : Option Addr) (c0_1 : Nat) (l0_1 : List S55) (a1 : Int) (a2 : Int) (r : Bool) (w : World) (hr0_0 : Kd.C (Kd.int .i64) w A0_0 l0_0.length l0_0) (hc0_0 : l0_0.length ≤ c0_0) (hr0_1 : Kd.C k55 w A0_1 l0_1.length l0_1) (hc0_1 : l0_1.length ≤ c0_1) (h : laws_FnExactFaceOf.f k l0_0 l0_1 a1 a2 = some r) :
  Calls Try.prog 3 #[.agg #[.slice A0_0 l0_0.length c0_0, .slice A0_1 l0_1.length c0_1], .int .i64 a1, .int .i64 a2] w fun e w' => e = .returned (.bool r) ∧ Below w.heap.size w w' := by
 have db : ∀ {w w' : World}, Drawn0 w w' → Below w.heap.size w w' := by
  intro w w' h_
  obtain ⟨n_, rfl⟩ := h_
  exact pw_below_drewN (Below.refl _ _) _
 have hua0 := Try.underlying25
 have hux0 := Try.underlying31
 have HR0_0 := Aside0.mk hr0_0
 have HC0_0 := Aside0.mk hc0_0
 clear hr0_0 hc0_0
 have HR0_1 := Aside0.mk hr0_1
 have HC0_1 := Aside0.mk hc0_1
 clear hr0_1 hc0_1
 have HB := Aside0.mk (Below.refl w.heap.size w)
 unfold laws_FnExactFaceOf.f at h
 replace h := Option.bind_eq_some_iff.mp h
 obtain ⟨t0, A_0, h⟩ := h
 by_cases ce : t0 < 0
 ·rw [if_pos ce] at h
  obtain rfl := Option.some.inj h
  have ceb : decide (t0 < 0) = true := decide_eq_true ce
  clear ce h
  have Bt0 := Aside0.mk A_0
  clear A_0
  go_enter Try.func3, Try.ntmps3
  go_wp2_with (first | ((with_reducible refine gate_dst (N := 3) rfl ?_); refine box_event ?hg (N := 3) ?hd (cs := #[.slice A0_0 l0_0.length c0_0, .slice A0_1 l0_1.length c0_1]) (t := 25) ?hr ?_; (case hd => rfl); (case hg => rfl); (case hr => first | (go_simp; done) | (go_simp; rfl)); intro ga0 hga0 w1 hbox hb; have BA0 := Aside0.mk hbox; skip; have HB_ := Aside0.mk (below_step HB.out hb); clear hb hbox hga0; clear HB; have HB := HB_; clear HB_; have hcBA00 : w1.cell? ⟨ga0, 0, none⟩ = some (.slice A0_0 l0_0.length c0_0) := (blk_cell BA0.out 0).trans rfl; have hfBA00 := blk_frozen BA0.out 0; have hcBA01 : w1.cell? ⟨ga0, 1, none⟩ = some (.slice A0_1 l0_1.length c0_1) := (blk_cell BA0.out 1).trans rfl; have hfBA01 := blk_frozen BA0.out 1) | (go_at_call 10; (with_reducible refine (laws_szGround.calls k A0_0 c0_0 l0_0 A0_1 c0_1 l0_1 1048576 t0 _ (Kd.C_below HR0_0.out HB.out) HC0_0.out (Kd.C_below HR0_1.out HB.out) HC0_1.out Bt0.out).mono ?_); rintro e w2 ⟨rfl, hb⟩; have HB_ := Aside0.mk (below_step HB.out hb); have BA0_ := Aside0.mk (blk_below (g := ga0) (o := .cells #[.slice A0_0 l0_0.length c0_0, .slice A0_1 l0_1.length c0_1] 25 (0, 0)) BA0.out hb); clear hb; clear HB BA0; have HB := HB_; have BA0 := BA0_; clear HB_ BA0_; clear hcBA00 hfBA00 hcBA01 hfBA01; have hcBA00 : w2.cell? ⟨ga0, 0, none⟩ = some (.slice A0_0 l0_0.length c0_0) := (blk_cell BA0.out 0).trans rfl; have hfBA00 := blk_frozen BA0.out 0; have hcBA01 : w2.cell? ⟨ga0, 1, none⟩ = some (.slice A0_1 l0_1.length c0_1) := (blk_cell BA0.out 1).trans rfl; have hfBA01 := blk_frozen BA0.out 1))
  go_ret
  exact ⟨by first | rfl | (simp; done) | (simp [*]; done) | (simp [Int.tdiv_eq_ediv_of_nonneg, *]; done), by repeat (first | (with_reducible first | exact HB.out | apply below_alloc | apply pw_below_drewN | apply below_drew1) | exact HB.out)⟩
 ·rw [if_neg ce] at h
  have cebt0 : decide (t0 < 0) = false := decide_eq_false ce
  clear ce
  replace h := Option.bind_eq_some_iff.mp h
  obtain ⟨⟨x0_0, x0_1⟩, AT0, h⟩ := h
  replace h := Option.bind_eq_some_iff.mp h
  obtain ⟨⟨s0, s1⟩, AW, h⟩ := h
  replace h := Option.bind_eq_some_iff.mp h
  obtain ⟨⟨g0, g1⟩, AG, h⟩ := h
  replace h := Option.bind_eq_some_iff.mp h
  obtain ⟨te, AE, h⟩ := h
  dsimp only at AW AG AE h
  have h5 : te = true := by by_cases c : te = true; exact c; rw [if_neg c] at h; exact absurd h (by simp)
  rw [if_pos h5] at h
  subst h5
  have c6 : g1 = s1 := by by_cases c : g1 = s1; exact c; rw [if_neg c] at h; exact absurd h (by simp)
  rw [if_pos c6] at h
  have cAg1 : (g1 != s1) = false := by simpa using c6
  have cBg1 : decide (g1 = s1) = true := by simpa using c6
  have cCg1 : (g1 == s1) = true := by simpa using c6
  clear c6
  replace h := Option.bind_eq_some_iff.mp h
  obtain ⟨tq0, AQ0, h⟩ := h
  have h5 : tq0 = true := by by_cases c : tq0 = true; exact c; rw [if_neg c] at h; exact absurd h (by simp)
  rw [if_pos h5] at h
  subst h5
  replace h := Option.bind_eq_some_iff.mp h
  obtain ⟨⟨q0, m0_0, m0_1⟩, AM0, h⟩ := h
  dsimp only at h
  have c8 : ¬ q0 < 0 := by intro c; rw [if_pos c] at h; exact absurd h (by simp)
  rw [if_neg c8] at h
  have c8b0 : decide (q0 < 0) = false := decide_eq_false c8
  clear c8
  replace h := Option.bind_eq_some_iff.mp h
  obtain ⟨⟨qk, lk⟩, AK, h⟩ := h
  replace h := Option.bind_eq_some_iff.mp h
  obtain ⟨th, AH, h⟩ := h
  dsimp only at AH h
  have c11 : ¬ th < 0 := by intro c; rw [if_pos c] at h; exact absurd h (by simp)
  rw [if_neg c11] at h
  have c11b0 : decide (th < 0) = false := decide_eq_false c11
  clear c11
  have c12 : th = qk := by by_cases c : th = qk; exact c; rw [if_neg c] at h; exact absurd h (by simp)
  rw [if_pos c12] at h
  have hr := Option.some.inj h
  clear h
  subst c12
  subst hr
  have Bt0 := Aside0.mk A_0
  clear A_0
  have BT0 := Aside0.mk AT0
  clear AT0
  have BW := Aside0.mk AW
  clear AW
  have BG := Aside0.mk AG
  clear AG
  have BE := Aside0.mk AE
  clear AE
  have BQ0 := Aside0.mk AQ0
  clear AQ0
  have BM0 := Aside0.mk AM0
  clear AM0
  have BK := Aside0.mk AK
  clear AK
  have BH := Aside0.mk AH
  clear AH
  have DB := Aside0.mk @db
  clear db
  go_enter Try.func3, Try.ntmps3
  go_wp2_with (first | ((with_reducible refine gate_dst (N := 3) rfl ?_); refine box_event ?hg (N := 3) ?hd (cs := #[.slice A0_0 l0_0.length c0_0, .slice A0_1 l0_1.length c0_1]) (t := 25) ?hr ?_; (case hd => rfl); (case hg => rfl); (case hr => first | (go_simp; done) | (go_simp; rfl)); intro ga0 hga0 w1 hbox hb; have BA0 := Aside0.mk hbox; skip; have HB_ := Aside0.mk (below_step HB.out hb); clear hb hbox hga0; clear HB; have HB := HB_; clear HB_; have hcBA00 : w1.cell? ⟨ga0, 0, none⟩ = some (.slice A0_0 l0_0.length c0_0) := (blk_cell BA0.out 0).trans rfl; have hfBA00 := blk_frozen BA0.out 0; have hcBA01 : w1.cell? ⟨ga0, 1, none⟩ = some (.slice A0_1 l0_1.length c0_1) := (blk_cell BA0.out 1).trans rfl; have hfBA01 := blk_frozen BA0.out 1) | (go_at_call 10; (with_reducible refine (laws_szGround.calls k A0_0 c0_0 l0_0 A0_1 c0_1 l0_1 1048576 t0 _ (Kd.C_below HR0_0.out HB.out) HC0_0.out (Kd.C_below HR0_1.out HB.out) HC0_1.out Bt0.out).mono ?_); rintro e w2 ⟨rfl, hb⟩; have HB_ := Aside0.mk (below_step HB.out hb); have BA0_ := Aside0.mk (blk_below (g := ga0) (o := .cells #[.slice A0_0 l0_0.length c0_0, .slice A0_1 l0_1.length c0_1] 25 (0, 0)) BA0.out hb); clear hb; clear HB BA0; have HB := HB_; have BA0 := BA0_; clear HB_ BA0_; clear hcBA00 hfBA00 hcBA01 hfBA01; have hcBA00 : w2.cell? ⟨ga0, 0, none⟩ = some (.slice A0_0 l0_0.length c0_0) := (blk_cell BA0.out 0).trans rfl; have hfBA00 := blk_frozen BA0.out 0; have hcBA01 : w2.cell? ⟨ga0, 1, none⟩ = some (.slice A0_1 l0_1.length c0_1) := (blk_cell BA0.out 1).trans rfl; have hfBA01 := blk_frozen BA0.out 1))
  go_wp2_with (first | (go_at_call 12; (with_reducible refine (laws_toGround.calls k A0_0 c0_0 l0_0 A0_1 c0_1 l0_1 x0_0 x0_1 _ (Kd.C_below HR0_0.out HB.out) HC0_0.out (Kd.C_below HR0_1.out HB.out) HC0_1.out BT0.out).mono ?_); rintro e w3 ⟨v0, v1, rfl, ho0, ho1, hb⟩; have HX0_0 := Aside0.mk ho0; have HX0_1 := Aside0.mk ho1; have HB_ := Aside0.mk (below_step HB.out hb); have BA0_ := Aside0.mk (blk_below (g := ga0) (o := .cells #[.slice A0_0 l0_0.length c0_0, .slice A0_1 l0_1.length c0_1] 25 (0, 0)) BA0.out hb); clear hb ho0 ho1; clear HB BA0; have HB := HB_; have BA0 := BA0_; clear HB_ BA0_; clear hcBA00 hfBA00 hcBA01 hfBA01; have hcBA00 : w3.cell? ⟨ga0, 0, none⟩ = some (.slice A0_0 l0_0.length c0_0) := (blk_cell BA0.out 0).trans rfl; have hfBA00 := blk_frozen BA0.out 0; have hcBA01 : w3.cell? ⟨ga0, 1, none⟩ = some (.slice A0_1 l0_1.length c0_1) := (blk_cell BA0.out 1).trans rfl; have hfBA01 := blk_frozen BA0.out 1))
  obtain ⟨Ar0_0, cr0_0, er0_0⟩ := Kd.R_slice HX0_0.out
  subst er0_0
  obtain ⟨Ar0_1, cr0_1, er0_1⟩ := Kd.S_slice HX0_1.out
  subst er0_1
  go_wp2_with (first | (go_at_call 11; (with_reducible refine (spec_FaceOf.calls k Ar0_0 cr0_0 x0_0 Ar0_1 cr0_1 x0_1 a1 a2 s0 s1 _ (Kd.R_reads' HX0_0.out).2.2 (Kd.R_reads' HX0_0.out).2.1 (Kd.S_reads' HX0_1.out).2.2 (Kd.S_reads' HX0_1.out).2.1 BW.out).mono ?_); rintro e w4 ⟨v0, rfl, ho, hb⟩; have HO := Aside0.mk ho; have HB_ := Aside0.mk (below_step HB.out hb); have BA0_ := Aside0.mk (blk_below (g := ga0) (o := .cells #[.slice A0_0 l0_0.length c0_0, .slice A0_1 l0_1.length c0_1] 25 (0, 0)) BA0.out hb); clear hb ho HX0_0 HX0_1; clear HB BA0; have HB := HB_; have BA0 := BA0_; clear HB_ BA0_; clear hcBA00 hfBA00 hcBA01 hfBA01; have hcBA00 : w4.cell? ⟨ga0, 0, none⟩ = some (.slice A0_0 l0_0.length c0_0) := (blk_cell BA0.out 0).trans rfl; have hfBA00 := blk_frozen BA0.out 0; have hcBA01 : w4.cell? ⟨ga0, 1, none⟩ = some (.slice A0_1 l0_1.length c0_1) := (blk_cell BA0.out 1).trans rfl; have hfBA01 := blk_frozen BA0.out 1))
  obtain ⟨As, cs, es⟩ := Kd.R_slice HO.out
  subst es
  have HS := Aside0.mk (Kd.R_mono (ok' := fun q => q < w4.heap.size) (Kd.R_bound HO.out) (fun q hq => hq.2.2.1))
  clear HO
  have HA_ := Aside0.mk HB.out.size
  have HA0 := Aside0.mk (blk_lt BA0.out)
  have N0 := Aside0.mk HB.out.size
  go_wp2_with (first | (go_at_call 12; (with_reducible refine (laws_toGround.calls k A0_0 c0_0 l0_0 A0_1 c0_1 l0_1 x0_0 x0_1 _ (Kd.C_below HR0_0.out HB.out) HC0_0.out (Kd.C_below HR0_1.out HB.out) HC0_1.out BT0.out).mono ?_); rintro e w5 ⟨v0, v1, rfl, ho0, ho1, hb⟩; have HX0_0 := Aside0.mk ho0; have HX0_1 := Aside0.mk ho1; have Z1 := Aside0.mk (hb.size); have HB_ := Aside0.mk (below_step HB.out hb); have BA0_ := Aside0.mk (blk_below (g := ga0) (o := .cells #[.slice A0_0 l0_0.length c0_0, .slice A0_1 l0_1.length c0_1] 25 (0, 0)) BA0.out hb); have HS_ := Aside0.mk (Kd.R_below HS.out hb); clear hb ho0 ho1; clear HB BA0 HS; have HB := HB_; have BA0 := BA0_; have HS := HS_; clear HB_ BA0_ HS_; clear hcBA00 hfBA00 hcBA01 hfBA01; have hcBA00 : w5.cell? ⟨ga0, 0, none⟩ = some (.slice A0_0 l0_0.length c0_0) := (blk_cell BA0.out 0).trans rfl; have hfBA00 := blk_frozen BA0.out 0; have hcBA01 : w5.cell? ⟨ga0, 1, none⟩ = some (.slice A0_1 l0_1.length c0_1) := (blk_cell BA0.out 1).trans rfl; have hfBA01 := blk_frozen BA0.out 1; obtain ⟨Ax0_0, cx0_0, ex0_0⟩ := Kd.R_slice HX0_0.out; subst ex0_0; obtain ⟨Ax0_1, cx0_1, ex0_1⟩ := Kd.S_slice HX0_1.out; subst ex0_1; have HY0_0 := Aside0.mk (Kd.R_mono (ok' := (fun q => (w4.heap.size ≤ q ∧ q < w5.heap.size) ∧ some q = (.slice Ax0_0 x0_0.length cx0_0 : Value).ownBlock)) (Kd.R_bound (Kd.R_tight2 rfl HX0_0.out)) (fun q hq => ⟨⟨hq.2.1, hq.2.2.1⟩, hq.1.1⟩)); have HY0_1 := Aside0.mk (Kd.S_mono (ok' := (fun q => (w4.heap.size ≤ q ∧ q < w5.heap.size) ∧ some q ≠ (.slice Ax0_0 x0_0.length cx0_0 : Value).ownBlock)) (Kd.S_bound HX0_1.out) (fun q hq => ⟨⟨hq.2.1, hq.2.2.1⟩, hq.1⟩)); clear HX0_0 HX0_1) | ((with_reducible refine gate_dst (N := 10) rfl ?_); refine box_event ?hg (N := 10) ?hd (cs := #[.slice none 0 0, .slice none 0 0]) (t := 31) ?hr ?_; (case hd => rfl); (case hg => rfl); (case hr => first | (go_simp; done) | (go_simp; rfl)); intro gx0 hgx w6 hbox hb; have NX0BA0 := Aside0.mk ((by rw [hgx]; exact Nat.ne_of_lt (blk_lt (g := ga0) (o := .cells #[.slice A0_0 l0_0.length c0_0, .slice A0_1 l0_1.length c0_1] 25 (0, 0)) BA0.out)) : ga0 ≠ gx0); have GX0 := Aside0.mk ((by rw [hgx]; exact Nat.le_refl _) : w5.heap.size ≤ gx0); have GY0 := Aside0.mk ((blk_lt hbox) : gx0 < w6.heap.size); have BX0 := Aside0.mk hbox; have HB_ := Aside0.mk (below_step HB.out hb); have BA0_ := Aside0.mk (blk_below (g := ga0) (o := .cells #[.slice A0_0 l0_0.length c0_0, .slice A0_1 l0_1.length c0_1] 25 (0, 0)) BA0.out hb); have HS_ := Aside0.mk (Kd.R_below HS.out hb); have HY0_0_ := Aside0.mk (Kd.R_below HY0_0.out hb); have HY0_1_ := Aside0.mk (Kd.S_below HY0_1.out hb); clear hb hbox hgx; clear HB BA0 HS HY0_0 HY0_1; have HB := HB_; have BA0 := BA0_; have HS := HS_; have HY0_0 := HY0_0_; have HY0_1 := HY0_1_; clear HB_ BA0_ HS_ HY0_0_ HY0_1_; clear hcBA00 hfBA00 hcBA01 hfBA01; have hcBA00 : w6.cell? ⟨ga0, 0, none⟩ = some (.slice A0_0 l0_0.length c0_0) := (blk_cell BA0.out 0).trans rfl; have hfBA00 := blk_frozen BA0.out 0; have hcBA01 : w6.cell? ⟨ga0, 1, none⟩ = some (.slice A0_1 l0_1.length c0_1) := (blk_cell BA0.out 1).trans rfl; have hfBA01 := blk_frozen BA0.out 1; have hcBX00 : w6.cell? ⟨gx0, 0, none⟩ = some (.slice none 0 0) := (blk_cell BX0.out 0).trans rfl; have hfBX00 := blk_frozen BX0.out 0; have hcBX01 : w6.cell? ⟨gx0, 1, none⟩ = some (.slice none 0 0) := (blk_cell BX0.out 1).trans rfl; have hfBX01 := blk_frozen BX0.out 1; have hn0BA0 := NX0BA0.out; have hm0BA0 := NX0BA0.out.symm))
  have HB_ : Aside0 (Below w.heap.size w ((w6.setCell ⟨gx0, 0, none⟩ (.slice Ax0_0 x0_0.length cx0_0)).setCell ⟨gx0, 1, none⟩ (.slice Ax0_1 x0_1.length cx0_1))) := Aside0.mk (below_set (j := 1) (v := .slice Ax0_1 x0_1.length cx0_1) (below_set (j := 0) (v := .slice Ax0_0 x0_0.length cx0_0) HB.out (by have z0_ := HA0.out; have z1_ := Z1.out; have z2_ := GX0.out; have z3_ := GY0.out; have z4_ := N0.out; omega)) (by have z0_ := HA0.out; have z1_ := Z1.out; have z2_ := GX0.out; have z3_ := GY0.out; have z4_ := N0.out; omega))
  have BA0_ := Aside0.mk (show (World.heap ((w6.setCell ⟨gx0, 0, none⟩ (.slice Ax0_0 x0_0.length cx0_0)).setCell ⟨gx0, 1, none⟩ (.slice Ax0_1 x0_1.length cx0_1)))[ga0]? = some (.cells #[.slice A0_0 l0_0.length c0_0, .slice A0_1 l0_1.length c0_1] 25 (0, 0)) from (blk_far (blk_far BA0.out NX0BA0.out (.slice Ax0_0 x0_0.length cx0_0)) NX0BA0.out (.slice Ax0_1 x0_1.length cx0_1)))
  have BX0_ := Aside0.mk (show (World.heap ((w6.setCell ⟨gx0, 0, none⟩ (.slice Ax0_0 x0_0.length cx0_0)).setCell ⟨gx0, 1, none⟩ (.slice Ax0_1 x0_1.length cx0_1)))[gx0]? = some (.cells #[.slice Ax0_0 x0_0.length cx0_0, .slice Ax0_1 x0_1.length cx0_1] 31 (0, 0)) from (blk_put (g := gx0) (cs := #[.slice Ax0_0 x0_0.length cx0_0, .slice none 0 0]) (blk_put (g := gx0) (cs := #[.slice none 0 0, .slice none 0 0]) BX0.out 0 (.slice Ax0_0 x0_0.length cx0_0) rfl) 1 (.slice Ax0_1 x0_1.length cx0_1) rfl))
  have HS_ := Aside0.mk (Kd.R_far (p := ⟨gx0, 1, none⟩) (Kd.R_far (p := ⟨gx0, 0, none⟩) HS.out (fun q hq => Nat.ne_of_lt (Nat.lt_of_lt_of_le hq (show w4.heap.size ≤ gx0 from by have z0_ := HA0.out; have z1_ := Z1.out; have z2_ := GX0.out; have z3_ := GY0.out; have z4_ := N0.out; omega))) (.slice Ax0_0 x0_0.length cx0_0)) (fun q hq => Nat.ne_of_lt (Nat.lt_of_lt_of_le hq (show w4.heap.size ≤ gx0 from by have z0_ := HA0.out; have z1_ := Z1.out; have z2_ := GX0.out; have z3_ := GY0.out; have z4_ := N0.out; omega))) (.slice Ax0_1 x0_1.length cx0_1))
  have HY0_0_ := Aside0.mk (Kd.R_far (p := ⟨gx0, 1, none⟩) (Kd.R_far (p := ⟨gx0, 0, none⟩) HY0_0.out (fun q hq => Nat.ne_of_lt (Nat.lt_of_lt_of_le hq.1.2 (show w5.heap.size ≤ gx0 from by have z0_ := HA0.out; have z1_ := Z1.out; have z2_ := GX0.out; have z3_ := GY0.out; have z4_ := N0.out; omega))) (.slice Ax0_0 x0_0.length cx0_0)) (fun q hq => Nat.ne_of_lt (Nat.lt_of_lt_of_le hq.1.2 (show w5.heap.size ≤ gx0 from by have z0_ := HA0.out; have z1_ := Z1.out; have z2_ := GX0.out; have z3_ := GY0.out; have z4_ := N0.out; omega))) (.slice Ax0_1 x0_1.length cx0_1))
  have HY0_1_ := Aside0.mk (Kd.S_far (p := ⟨gx0, 1, none⟩) (Kd.S_far (p := ⟨gx0, 0, none⟩) HY0_1.out (fun q hq => Nat.ne_of_lt (Nat.lt_of_lt_of_le hq.1.2 (show w5.heap.size ≤ gx0 from by have z0_ := HA0.out; have z1_ := Z1.out; have z2_ := GX0.out; have z3_ := GY0.out; have z4_ := N0.out; omega))) (.slice Ax0_0 x0_0.length cx0_0)) (fun q hq => Nat.ne_of_lt (Nat.lt_of_lt_of_le hq.1.2 (show w5.heap.size ≤ gx0 from by have z0_ := HA0.out; have z1_ := Z1.out; have z2_ := GX0.out; have z3_ := GY0.out; have z4_ := N0.out; omega))) (.slice Ax0_1 x0_1.length cx0_1))
  clear HB BA0 BX0 HS HY0_0 HY0_1
  have HB := HB_
  have BA0 := BA0_
  have BX0 := BX0_
  have HS := HS_
  have HY0_0 := HY0_0_
  have HY0_1 := HY0_1_
  clear HB_ BA0_ BX0_ HS_ HY0_0_ HY0_1_
  clear hcBA00 hfBA00 hcBA01 hfBA01 hcBX00 hfBX00 hcBX01 hfBX01
  obtain ⟨w7, hw_⟩ : ∃ w_, w_ = ((w6.setCell ⟨gx0, 0, none⟩ (.slice Ax0_0 x0_0.length cx0_0)).setCell ⟨gx0, 1, none⟩ (.slice Ax0_1 x0_1.length cx0_1)) := ⟨_, rfl⟩
  rw [← hw_] at HB BA0 BX0 HS HY0_0 HY0_1 ⊢
  have Z2 := Aside0.mk ((by rw [hw_]; simp) : w6.heap.size ≤ w7.heap.size)
  clear hw_
  have hcBA00 : w7.cell? ⟨ga0, 0, none⟩ = some (.slice A0_0 l0_0.length c0_0) := (blk_cell BA0.out 0).trans rfl
  have hfBA00 := blk_frozen BA0.out 0
  have hcBA01 : w7.cell? ⟨ga0, 1, none⟩ = some (.slice A0_1 l0_1.length c0_1) := (blk_cell BA0.out 1).trans rfl
  have hfBA01 := blk_frozen BA0.out 1
  have hcBX00 : w7.cell? ⟨gx0, 0, none⟩ = some (.slice Ax0_0 x0_0.length cx0_0) := (blk_cell BX0.out 0).trans rfl
  have hfBX00 := blk_frozen BX0.out 0
  have hcBX01 : w7.cell? ⟨gx0, 1, none⟩ = some (.slice Ax0_1 x0_1.length cx0_1) := (blk_cell BX0.out 1).trans rfl
  have hfBX01 := blk_frozen BX0.out 1
  have NG := Aside0.mk HB.out.size
  have NL0 := Aside0.mk ((by have z0_ := HA0.out; have z1_ := Z1.out; have z2_ := GX0.out; have z3_ := GY0.out; have z4_ := Z2.out; have z5_ := N0.out; omega) : w.heap.size ≤ w4.heap.size)
  go_wp2_with (first | (go_at_call 13; (with_reducible refine (impl_FaceOf.calls k Ax0_0 cx0_0 x0_0 Ax0_1 cx0_1 x0_1 a1 a2 g0 g1 _ (Kd.R_reads' HY0_0.out).2.2 (Kd.R_reads' HY0_0.out).2.1 (Kd.S_reads' HY0_1.out).2.2 (Kd.S_reads' HY0_1.out).2.1 BG.out).mono ?_); rintro e w8 ⟨v0, rfl, ho, hb⟩; have HO := Aside0.mk ho; have HB_ := Aside0.mk (below_step HB.out hb); have BA0_ := Aside0.mk (blk_below (g := ga0) (o := .cells #[.slice A0_0 l0_0.length c0_0, .slice A0_1 l0_1.length c0_1] 25 (0, 0)) BA0.out hb); have BX0_ := Aside0.mk (blk_below (g := gx0) (o := .cells #[.slice Ax0_0 x0_0.length cx0_0, .slice Ax0_1 x0_1.length cx0_1] 31 (0, 0)) BX0.out hb); have HS_ := Aside0.mk (Kd.R_below HS.out hb); have HY0_0_ := Aside0.mk (Kd.R_below HY0_0.out hb); have HY0_1_ := Aside0.mk (Kd.S_below HY0_1.out hb); clear hb ho; clear HB BA0 BX0 HS HY0_0 HY0_1; have HB := HB_; have BA0 := BA0_; have BX0 := BX0_; have HS := HS_; have HY0_0 := HY0_0_; have HY0_1 := HY0_1_; clear HB_ BA0_ BX0_ HS_ HY0_0_ HY0_1_; clear hcBA00 hfBA00 hcBA01 hfBA01 hcBX00 hfBX00 hcBX01 hfBX01; have hcBA00 : w8.cell? ⟨ga0, 0, none⟩ = some (.slice A0_0 l0_0.length c0_0) := (blk_cell BA0.out 0).trans rfl; have hfBA00 := blk_frozen BA0.out 0; have hcBA01 : w8.cell? ⟨ga0, 1, none⟩ = some (.slice A0_1 l0_1.length c0_1) := (blk_cell BA0.out 1).trans rfl; have hfBA01 := blk_frozen BA0.out 1; have hcBX00 : w8.cell? ⟨gx0, 0, none⟩ = some (.slice Ax0_0 x0_0.length cx0_0) := (blk_cell BX0.out 0).trans rfl; have hfBX00 := blk_frozen BX0.out 0; have hcBX01 : w8.cell? ⟨gx0, 1, none⟩ = some (.slice Ax0_1 x0_1.length cx0_1) := (blk_cell BX0.out 1).trans rfl; have hfBX01 := blk_frozen BX0.out 1))
  obtain ⟨Ag, cg, eg⟩ := Kd.R_slice HO.out
  subst eg
  have HG := Aside0.mk (Kd.R_mono (ok' := fun q => w7.heap.size ≤ q) (Kd.R_bound HO.out) (fun q hq => hq.2.1))
  clear HO
  go_wp2_with (first | (go_at_call 14; (with_reducible refine (laws_eqInt64S.calls k Ag cg g0 As cs s0 true _ (Kd.R_reads' HG.out).2.2 (Kd.R_reads' HG.out).2.1 (Kd.R_reads' HS.out).2.2 (Kd.R_reads' HS.out).2.1 BE.out).mono ?_); rintro e w9 ⟨rfl, hd⟩; have hb := DB.out hd; have HB_ := Aside0.mk (below_step HB.out hb); have BA0_ := Aside0.mk (blk_below (g := ga0) (o := .cells #[.slice A0_0 l0_0.length c0_0, .slice A0_1 l0_1.length c0_1] 25 (0, 0)) BA0.out hb); have BX0_ := Aside0.mk (blk_below (g := gx0) (o := .cells #[.slice Ax0_0 x0_0.length cx0_0, .slice Ax0_1 x0_1.length cx0_1] 31 (0, 0)) BX0.out hb); have HS_ := Aside0.mk (Kd.R_below HS.out hb); have HY0_0_ := Aside0.mk (Kd.R_below HY0_0.out hb); have HY0_1_ := Aside0.mk (Kd.S_below HY0_1.out hb); have HG_ := Aside0.mk (Kd.R_below HG.out hb); clear hb hd; clear HB BA0 BX0 HS HY0_0 HY0_1 HG; have HB := HB_; have BA0 := BA0_; have BX0 := BX0_; have HS := HS_; have HY0_0 := HY0_0_; have HY0_1 := HY0_1_; have HG := HG_; clear HB_ BA0_ BX0_ HS_ HY0_0_ HY0_1_ HG_; clear hcBA00 hfBA00 hcBA01 hfBA01 hcBX00 hfBX00 hcBX01 hfBX01; have hcBA00 : w9.cell? ⟨ga0, 0, none⟩ = some (.slice A0_0 l0_0.length c0_0) := (blk_cell BA0.out 0).trans rfl; have hfBA00 := blk_frozen BA0.out 0; have hcBA01 : w9.cell? ⟨ga0, 1, none⟩ = some (.slice A0_1 l0_1.length c0_1) := (blk_cell BA0.out 1).trans rfl; have hfBA01 := blk_frozen BA0.out 1; have hcBX00 : w9.cell? ⟨gx0, 0, none⟩ = some (.slice Ax0_0 x0_0.length cx0_0) := (blk_cell BX0.out 0).trans rfl; have hfBX00 := blk_frozen BX0.out 0; have hcBX01 : w9.cell? ⟨gx0, 1, none⟩ = some (.slice Ax0_1 x0_1.length cx0_1) := (blk_cell BX0.out 1).trans rfl; have hfBX01 := blk_frozen BX0.out 1))
  try go_wp2
  have HS_ := Aside0.mk (Kd.R_drew HS.out)
  have HY0_0_ := Aside0.mk (Kd.R_drew HY0_0.out)
  have HY0_1_ := Aside0.mk (Kd.S_drew HY0_1.out)
  have HG_ := Aside0.mk (Kd.R_drew HG.out)
  have BA0_ := Aside0.mk (blk_drew BA0.out)
  have BX0_ := Aside0.mk (blk_drew BX0.out)
  have HB_ := Aside0.mk (below_drew1 HB.out)
  clear HS HY0_0 HY0_1 HG BA0 BX0 HB
  have HS := HS_
  have HY0_0 := HY0_0_
  have HY0_1 := HY0_1_
  have HG := HG_
  have BA0 := BA0_
  have BX0 := BX0_
  have HB := HB_
  clear HS_ HY0_0_ HY0_1_ HG_ BA0_ BX0_ HB_
  clear hcBA00 hfBA00 hcBA01 hfBA01 hcBX00 hfBX00 hcBX01 hfBX01
  refine start_ (n := 5) (S := fun w' => w'.cell? ⟨gx0, 0, none⟩ = some (.slice Ax0_0 x0_0.length cx0_0) ∧ w'.cell? ⟨gx0, 1, none⟩ = some (.slice Ax0_1 x0_1.length cx0_1) ∧ w'.cell? ⟨ga0, 0, none⟩ = some (.slice A0_0 l0_0.length c0_0) ∧ w'.cell? ⟨ga0, 1, none⟩ = some (.slice A0_1 l0_1.length c0_1)) (ds := []) #[false, false, false, false, false] (by kernel_rfl) rfl rfl ⟨(blk_cell BX0.out 0).trans rfl, (blk_cell BX0.out 1).trans rfl, (blk_cell BA0.out 0).trans rfl, (blk_cell BA0.out 1).trans rfl⟩ (fun hHeld => ?_)
  generalize w9.drew = w10 at HS HY0_0 HY0_1 HG BA0 BX0 HB hHeld ⊢
  refine take_ (i := 0) (N := some 49) (v := ?_) (a' := ?_) #[true, false, false, false, false] rfl rfl (by kernel_rfl) (fun _ _ _ h => h) (Or.inl ⟨by rfl, ?_⟩) hHeld ?_ ?_
  rotate_left
  ·rintro w' ⟨s0_, s1_, s2_, s3_⟩
   go_simp
   with_reducible rfl
  rotate_left
  ·simp only [Act.put, qa_, qz_, qs_, i64_w, i32_w]
   rfl
  refine take_ (i := 1) (N := some 50) (v := ?_) (a' := ?_) #[true, true, false, false, false] rfl rfl (by kernel_rfl) (fun _ _ _ h => h) (Or.inl ⟨by rfl, ?_⟩) hHeld ?_ ?_
  rotate_left
  ·rintro w' ⟨s0_, s1_, s2_, s3_⟩
   go_simp
   with_reducible rfl
  rotate_left
  ·simp only [Act.put, qa_, qz_, qs_, i64_w, i32_w]
   rfl
  refine one_ (i := 2) (N := some 51) #[true, true, true, false, false] rfl rfl (by kernel_rfl) (by decide) (fun K hK => ?_)
  refine goes_ Try.func12 (by kernel_rfl) rfl #[.agg #[.slice A0_0 l0_0.length c0_0, .slice A0_1 l0_1.length c0_1]] (by rfl) rfl rfl (by (try simp only [List.map_toArray, List.map_cons, List.map_nil]); first | done | rfl | (simp only [List.length_drop, List.length_take]; rfl)) ?_
  (with_reducible refine (laws_toGround.calls k A0_0 c0_0 l0_0 A0_1 c0_1 l0_1 x0_0 x0_1 _ (Kd.C_below HR0_0.out HB.out) HC0_0.out (Kd.C_below HR0_1.out HB.out) HC0_1.out BT0.out).mono ?_)
  rintro e w11 ⟨v0, v1, rfl, ho0, ho1, hb⟩
  refine ⟨_, rfl, ?_⟩
  have HT0_0 := Aside0.mk ho0
  have HT0_1 := Aside0.mk ho1
  have HB_ := Aside0.mk (below_step HB.out hb)
  have BA0_ := Aside0.mk (blk_below (g := ga0) (o := .cells #[.slice A0_0 l0_0.length c0_0, .slice A0_1 l0_1.length c0_1] 25 (0, 0)) BA0.out hb)
  have BX0_ := Aside0.mk (blk_below (g := gx0) (o := .cells #[.slice Ax0_0 x0_0.length cx0_0, .slice Ax0_1 x0_1.length cx0_1] 31 (0, 0)) BX0.out hb)
  have HS_ := Aside0.mk (Kd.R_below HS.out hb)
  have HY0_0_ := Aside0.mk (Kd.R_below HY0_0.out hb)
  have HY0_1_ := Aside0.mk (Kd.S_below HY0_1.out hb)
  have HG_ := Aside0.mk (Kd.R_below HG.out hb)
  clear hb ho0 ho1
  clear HB BA0 BX0 HS HY0_0 HY0_1 HG
  have HB := HB_
  have BA0 := BA0_
  have BX0 := BX0_
  have HS := HS_
  have HY0_0 := HY0_0_
  have HY0_1 := HY0_1_
  have HG := HG_
  clear HB_ BA0_ BX0_ HS_ HY0_0_ HY0_1_ HG_
  have hcBA00 : w11.cell? ⟨ga0, 0, none⟩ = some (.slice A0_0 l0_0.length c0_0) := (blk_cell BA0.out 0).trans rfl
  have hfBA00 := blk_frozen BA0.out 0
  have hcBA01 : w11.cell? ⟨ga0, 1, none⟩ = some (.slice A0_1 l0_1.length c0_1) := (blk_cell BA0.out 1).trans rfl
  have hfBA01 := blk_frozen BA0.out 1
  have hcBX00 : w11.cell? ⟨gx0, 0, none⟩ = some (.slice Ax0_0 x0_0.length cx0_0) := (blk_cell BX0.out 0).trans rfl
  have hfBX00 := blk_frozen BX0.out 0
  have hcBX01 : w11.cell? ⟨gx0, 1, none⟩ = some (.slice Ax0_1 x0_1.length cx0_1) := (blk_cell BX0.out 1).trans rfl
  have hfBX01 := blk_frozen BX0.out 1
  clear hcBA00 hfBA00 hcBA01 hfBA01 hcBX00 hfBX00 hcBX01 hfBX01
  obtain ⟨Ar0_0, cr0_0, er0_0⟩ := Kd.R_slice HT0_0.out
  subst er0_0
  obtain ⟨Ar0_1, cr0_1, er0_1⟩ := Kd.S_slice HT0_1.out
  subst er0_1
  refine hK.out _ _ ⟨(blk_cell BX0.out 0).trans rfl, (blk_cell BX0.out 1).trans rfl, (blk_cell BA0.out 0).trans rfl, (blk_cell BA0.out 1).trans rfl⟩ (fun hHeld => ?_)
  clear hK K
  refine norm_ (a' := ?_) ?_ ?_
  rotate_left
  ·show Act.put _ (some 51) _ = _
   simp only [Act.put, qa_, qz_, qs_, i64_w, i32_w]
   rfl
  refine one_ (i := 3) (N := some 52) #[true, true, true, true, false] rfl rfl (by kernel_rfl) (by decide) (fun K hK => ?_)
  refine goes_ Try.func15 (by kernel_rfl) rfl #[.agg #[.slice Ax0_0 x0_0.length cx0_0, .slice Ax0_1 x0_1.length cx0_1], .agg #[.slice Ar0_0 x0_0.length cr0_0, .slice Ar0_1 x0_1.length cr0_1]] (by rfl) rfl rfl (by (try simp only [List.map_toArray, List.map_cons, List.map_nil]); first | done | rfl | (simp only [List.length_drop, List.length_take]; rfl)) ?_
  (with_reducible refine (laws_eqGround.calls k Ax0_0 cx0_0 x0_0 Ax0_1 cx0_1 x0_1 Ar0_0 cr0_0 x0_0 Ar0_1 cr0_1 x0_1 true _ (Kd.R_reads' HY0_0.out).2.2 (Kd.R_reads' HY0_0.out).2.1 (Kd.S_reads' HY0_1.out).2.2 (Kd.S_reads' HY0_1.out).2.1 (Kd.R_reads' HT0_0.out).2.2 (Kd.R_reads' HT0_0.out).2.1 (Kd.S_reads' HT0_1.out).2.2 (Kd.S_reads' HT0_1.out).2.1 BQ0.out).mono ?_)
  rintro e w12 ⟨rfl, hb⟩
  refine ⟨_, rfl, ?_⟩
  have HB_ := Aside0.mk (below_step HB.out hb)
  have BA0_ := Aside0.mk (blk_below (g := ga0) (o := .cells #[.slice A0_0 l0_0.length c0_0, .slice A0_1 l0_1.length c0_1] 25 (0, 0)) BA0.out hb)
  have BX0_ := Aside0.mk (blk_below (g := gx0) (o := .cells #[.slice Ax0_0 x0_0.length cx0_0, .slice Ax0_1 x0_1.length cx0_1] 31 (0, 0)) BX0.out hb)
  have HS_ := Aside0.mk (Kd.R_below HS.out hb)
  have HY0_0_ := Aside0.mk (Kd.R_below HY0_0.out hb)
  have HY0_1_ := Aside0.mk (Kd.S_below HY0_1.out hb)
  have HG_ := Aside0.mk (Kd.R_below HG.out hb)
  clear hb HT0_0 HT0_1
  clear HB BA0 BX0 HS HY0_0 HY0_1 HG
  have HB := HB_
  have BA0 := BA0_
  have BX0 := BX0_
  have HS := HS_
  have HY0_0 := HY0_0_
  have HY0_1 := HY0_1_
  have HG := HG_
  clear HB_ BA0_ BX0_ HS_ HY0_0_ HY0_1_ HG_
  have hcBA00 : w12.cell? ⟨ga0, 0, none⟩ = some (.slice A0_0 l0_0.length c0_0) := (blk_cell BA0.out 0).trans rfl
  have hfBA00 := blk_frozen BA0.out 0
  have hcBA01 : w12.cell? ⟨ga0, 1, none⟩ = some (.slice A0_1 l0_1.length c0_1) := (blk_cell BA0.out 1).trans rfl
  have hfBA01 := blk_frozen BA0.out 1
  have hcBX00 : w12.cell? ⟨gx0, 0, none⟩ = some (.slice Ax0_0 x0_0.length cx0_0) := (blk_cell BX0.out 0).trans rfl
  have hfBX00 := blk_frozen BX0.out 0
  have hcBX01 : w12.cell? ⟨gx0, 1, none⟩ = some (.slice Ax0_1 x0_1.length cx0_1) := (blk_cell BX0.out 1).trans rfl
  have hfBX01 := blk_frozen BX0.out 1
  clear hcBA00 hfBA00 hcBA01 hfBA01 hcBX00 hfBX00 hcBX01 hfBX01
  refine hK.out _ _ ⟨(blk_cell BX0.out 0).trans rfl, (blk_cell BX0.out 1).trans rfl, (blk_cell BA0.out 0).trans rfl, (blk_cell BA0.out 1).trans rfl⟩ (fun hHeld => ?_)
  clear hK K
  refine norm_ (a' := ?_) ?_ ?_
  rotate_left
  ·show Act.put _ (some 52) _ = _
   simp only [Act.put, qa_, qz_, qs_, i64_w, i32_w]
   rfl
  refine pure_ (i := 4) (N := some 53) (v := ?_) (a' := ?_) #[true, true, true, true, true] rfl rfl (by kernel_rfl) (fun _ _ _ h => h) (Or.inl ⟨by rfl, ?_⟩) ?_ ?_
  rotate_left
  ·intro w'
   go_simp
   with_reducible rfl
  rotate_left
  ·simp only [Act.put, qa_, qz_, qs_, i64_w, i32_w]
   rfl
  refine done_ (by kernel_rfl) ?_
  have hcBA00 : w12.cell? ⟨ga0, 0, none⟩ = some (.slice A0_0 l0_0.length c0_0) := (blk_cell BA0.out 0).trans rfl
  have hfBA00 := blk_frozen BA0.out 0
  have hcBA01 : w12.cell? ⟨ga0, 1, none⟩ = some (.slice A0_1 l0_1.length c0_1) := (blk_cell BA0.out 1).trans rfl
  have hfBA01 := blk_frozen BA0.out 1
  have hcBX00 : w12.cell? ⟨gx0, 0, none⟩ = some (.slice Ax0_0 x0_0.length cx0_0) := (blk_cell BX0.out 0).trans rfl
  have hfBX00 := blk_frozen BX0.out 0
  have hcBX01 : w12.cell? ⟨gx0, 1, none⟩ = some (.slice Ax0_1 x0_1.length cx0_1) := (blk_cell BX0.out 1).trans rfl
  have hfBX01 := blk_frozen BX0.out 1
  go_wp2_with (first | (go_at_call 16; (with_reducible refine (laws_markGround.calls k (fun q => (w4.heap.size ≤ q ∧ q < w5.heap.size) ∧ some q = (.slice Ax0_0 x0_0.length cx0_0 : Value).ownBlock) _ x0_0 (fun q => (w4.heap.size ≤ q ∧ q < w5.heap.size) ∧ some q ≠ (.slice Ax0_0 x0_0.length cx0_0 : Value).ownBlock) _ x0_1 1 q0 m0_0 m0_1 w _ HB.out (Kd.R_lower HY0_0.out NL0.out) (Kd.S_lower HY0_1.out NL0.out) (fun q h1 h2 => absurd h1.2 h2.2) BM0.out).mono ?_); rintro e w13 ⟨rfl, hb, hk⟩; have HB_ := Aside0.mk hb; have BA0_ := Aside0.mk ((hk.2 ga0 (blk_lt BA0.out) (fun hs => by have i_ : w4.heap.size ≤ _ ∧ _ < w5.heap.size := hs.elim (fun h => h.1) (fun h => h.1); have z0_ := HA0.out; have z1_ := Z1.out; have z2_ := GX0.out; have z3_ := GY0.out; have z4_ := Z2.out; omega)).trans BA0.out); have HS_ := Aside0.mk (Kd.R_step HS.out (fun q hq hlt => hk.2 q hlt (fun hs => by have i_ : w4.heap.size ≤ _ ∧ _ < w5.heap.size := hs.elim (fun h => h.1) (fun h => h.1); have y_ : q < w4.heap.size := hq; have z0_ := HA0.out; have z1_ := Z1.out; have z2_ := GX0.out; have z3_ := GY0.out; have z4_ := Z2.out; omega))); have HG_ := Aside0.mk (Kd.R_step HG.out (fun q hq hlt => hk.2 q hlt (fun hs => by have i_ : w4.heap.size ≤ _ ∧ _ < w5.heap.size := hs.elim (fun h => h.1) (fun h => h.1); have y_ : w7.heap.size ≤ q := hq; have z0_ := HA0.out; have z1_ := Z1.out; have z2_ := GX0.out; have z3_ := GY0.out; have z4_ := Z2.out; omega))); clear hb hk HY0_0 HY0_1 BX0; clear HB BA0 HS HG; have HB := HB_; have BA0 := BA0_; have HS := HS_; have HG := HG_; clear HB_ BA0_ HS_ HG_; clear hcBA00 hfBA00 hcBA01 hfBA01 hcBX00 hfBX00 hcBX01 hfBX01; have hcBA00 : w13.cell? ⟨ga0, 0, none⟩ = some (.slice A0_0 l0_0.length c0_0) := (blk_cell BA0.out 0).trans rfl; have hfBA00 := blk_frozen BA0.out 0; have hcBA01 : w13.cell? ⟨ga0, 1, none⟩ = some (.slice A0_1 l0_1.length c0_1) := (blk_cell BA0.out 1).trans rfl; have hfBA01 := blk_frozen BA0.out 1))
  go_wp2_with (first | (go_at_call 14; (with_reducible refine (laws_eqInt64S.calls k Ag cg g0 As cs s0 true _ (Kd.R_reads' HG.out).2.2 (Kd.R_reads' HG.out).2.1 (Kd.R_reads' HS.out).2.2 (Kd.R_reads' HS.out).2.1 BE.out).mono ?_); rintro e w14 ⟨rfl, hd⟩; have hb := DB.out hd; have HB_ := Aside0.mk (below_step HB.out hb); have BA0_ := Aside0.mk (blk_below (g := ga0) (o := .cells #[.slice A0_0 l0_0.length c0_0, .slice A0_1 l0_1.length c0_1] 25 (0, 0)) BA0.out hb); have HS_ := Aside0.mk (Kd.R_below HS.out hb); have HG_ := Aside0.mk (Kd.R_below HG.out hb); clear hb hd; clear HB BA0 HS HG; have HB := HB_; have BA0 := BA0_; have HS := HS_; have HG := HG_; clear HB_ BA0_ HS_ HG_; clear hcBA00 hfBA00 hcBA01 hfBA01; have hcBA00 : w14.cell? ⟨ga0, 0, none⟩ = some (.slice A0_0 l0_0.length c0_0) := (blk_cell BA0.out 0).trans rfl; have hfBA00 := blk_frozen BA0.out 0; have hcBA01 : w14.cell? ⟨ga0, 1, none⟩ = some (.slice A0_1 l0_1.length c0_1) := (blk_cell BA0.out 1).trans rfl; have hfBA01 := blk_frozen BA0.out 1))
  have NH := Aside0.mk HB.out.size
  go_wp2_with (first | (go_at_call 17; (with_reducible refine (laws_markInt64S.calls k (fun q => w7.heap.size ≤ q) _ g0 1 th lk w _ HB.out (Kd.R_lower HG.out NG.out) BK.out).mono ?_); rintro e w15 ⟨rfl, hy, hb, hk⟩; have HB_ := Aside0.mk hb; have BA0_ := Aside0.mk ((hk.2 ga0 (blk_lt BA0.out) (fun hs => by have i_ : w7.heap.size ≤ _ := hs; have z0_ := HA0.out; have z1_ := Z1.out; have z2_ := GX0.out; have z3_ := GY0.out; have z4_ := Z2.out; omega)).trans BA0.out); have HS_ := Aside0.mk (Kd.R_step HS.out (fun q hq hlt => hk.2 q hlt (fun hs => by have y_ : q < w4.heap.size := hq; have i_ : w7.heap.size ≤ q := hs; have z0_ := HA0.out; have z1_ := Z1.out; have z2_ := GX0.out; have z3_ := GY0.out; have z4_ := Z2.out; omega))); have HG_ := Aside0.mk hy; clear hy hb hk; clear HB BA0 HS HG; have HB := HB_; have BA0 := BA0_; have HS := HS_; have HG := HG_; clear HB_ BA0_ HS_ HG_; clear hcBA00 hfBA00 hcBA01 hfBA01; have hcBA00 : w15.cell? ⟨ga0, 0, none⟩ = some (.slice A0_0 l0_0.length c0_0) := (blk_cell BA0.out 0).trans rfl; have hfBA00 := blk_frozen BA0.out 0; have hcBA01 : w15.cell? ⟨ga0, 1, none⟩ = some (.slice A0_1 l0_1.length c0_1) := (blk_cell BA0.out 1).trans rfl; have hfBA01 := blk_frozen BA0.out 1))
  have HL := Aside0.mk (Kd.R_reads' HG.out).1
  rw [HL.out]
  go_wp2_with (first | (go_at_call 18; (with_reducible refine (laws_heldInt64S.calls k Ag cg lk 1 th _ (Kd.R_reads' HG.out).2.2 (by have z_ := (Kd.R_reads' HG.out).2.1; rw [HL.out] at z_; exact z_) BH.out).mono ?_); rintro e w16 ⟨rfl, hd⟩; have hb := DB.out hd; have HB_ := Aside0.mk (below_step HB.out hb); have BA0_ := Aside0.mk (blk_below (g := ga0) (o := .cells #[.slice A0_0 l0_0.length c0_0, .slice A0_1 l0_1.length c0_1] 25 (0, 0)) BA0.out hb); have HS_ := Aside0.mk (Kd.R_below HS.out hb); have HG_ := Aside0.mk (Kd.R_below HG.out hb); clear hb hd; clear HB BA0 HS HG; have HB := HB_; have BA0 := BA0_; have HS := HS_; have HG := HG_; clear HB_ BA0_ HS_ HG_; clear hcBA00 hfBA00 hcBA01 hfBA01; have hcBA00 : w16.cell? ⟨ga0, 0, none⟩ = some (.slice A0_0 l0_0.length c0_0) := (blk_cell BA0.out 0).trans rfl; have hfBA00 := blk_frozen BA0.out 0; have hcBA01 : w16.cell? ⟨ga0, 1, none⟩ = some (.slice A0_1 l0_1.length c0_1) := (blk_cell BA0.out 1).trans rfl; have hfBA01 := blk_frozen BA0.out 1))
  go_wp2_with (first | (go_at_call 12; (with_reducible refine (laws_toGround.calls k A0_0 c0_0 l0_0 A0_1 c0_1 l0_1 x0_0 x0_1 _ (Kd.C_below HR0_0.out HB.out) HC0_0.out (Kd.C_below HR0_1.out HB.out) HC0_1.out BT0.out).mono ?_); rintro e w17 ⟨v0, v1, rfl, ho0, ho1, hb⟩; have HX0_0 := Aside0.mk ho0; have HX0_1 := Aside0.mk ho1; have HB_ := Aside0.mk (below_step HB.out hb); have BA0_ := Aside0.mk (blk_below (g := ga0) (o := .cells #[.slice A0_0 l0_0.length c0_0, .slice A0_1 l0_1.length c0_1] 25 (0, 0)) BA0.out hb); have HS_ := Aside0.mk (Kd.R_below HS.out hb); have HG_ := Aside0.mk (Kd.R_below HG.out hb); clear hb ho0 ho1; clear HB BA0 HS HG; have HB := HB_; have BA0 := BA0_; have HS := HS_; have HG := HG_; clear HB_ BA0_ HS_ HG_; clear hcBA00 hfBA00 hcBA01 hfBA01; have hcBA00 : w17.cell? ⟨ga0, 0, none⟩ = some (.slice A0_0 l0_0.length c0_0) := (blk_cell BA0.out 0).trans rfl; have hfBA00 := blk_frozen BA0.out 0; have hcBA01 : w17.cell? ⟨ga0, 1, none⟩ = some (.slice A0_1 l0_1.length c0_1) := (blk_cell BA0.out 1).trans rfl; have hfBA01 := blk_frozen BA0.out 1))
  obtain ⟨Ar0_0, cr0_0, er0_0⟩ := Kd.R_slice HX0_0.out
  subst er0_0
  obtain ⟨Ar0_1, cr0_1, er0_1⟩ := Kd.S_slice HX0_1.out
  subst er0_1
  go_wp2_with (first | (go_at_call 13; (with_reducible refine (impl_FaceOf.calls k Ar0_0 cr0_0 x0_0 Ar0_1 cr0_1 x0_1 a1 a2 g0 g1 _ (Kd.R_reads' HX0_0.out).2.2 (Kd.R_reads' HX0_0.out).2.1 (Kd.S_reads' HX0_1.out).2.2 (Kd.S_reads' HX0_1.out).2.1 BG.out).mono ?_); rintro e w18 ⟨v0, rfl, ho, hb⟩; have HO := Aside0.mk ho; have HB_ := Aside0.mk (below_step HB.out hb); have BA0_ := Aside0.mk (blk_below (g := ga0) (o := .cells #[.slice A0_0 l0_0.length c0_0, .slice A0_1 l0_1.length c0_1] 25 (0, 0)) BA0.out hb); have HS_ := Aside0.mk (Kd.R_below HS.out hb); have HG_ := Aside0.mk (Kd.R_below HG.out hb); clear hb ho HX0_0 HX0_1; clear HB BA0 HS HG; have HB := HB_; have BA0 := BA0_; have HS := HS_; have HG := HG_; clear HB_ BA0_ HS_ HG_; clear hcBA00 hfBA00 hcBA01 hfBA01; have hcBA00 : w18.cell? ⟨ga0, 0, none⟩ = some (.slice A0_0 l0_0.length c0_0) := (blk_cell BA0.out 0).trans rfl; have hfBA00 := blk_frozen BA0.out 0; have hcBA01 : w18.cell? ⟨ga0, 1, none⟩ = some (.slice A0_1 l0_1.length c0_1) := (blk_cell BA0.out 1).trans rfl; have hfBA01 := blk_frozen BA0.out 1))
  obtain ⟨Ah, ch, eh⟩ := Kd.R_slice HO.out
  subst eh
  go_wp2_with (first | (go_at_call 14; (with_reducible refine (laws_eqInt64S.calls k Ah ch g0 As cs s0 true _ (Kd.R_reads' HO.out).2.2 (Kd.R_reads' HO.out).2.1 (Kd.R_reads' HS.out).2.2 (Kd.R_reads' HS.out).2.1 BE.out).mono ?_); rintro e w19 ⟨rfl, hd⟩; have hb := DB.out hd; have HB_ := Aside0.mk (below_step HB.out hb); have BA0_ := Aside0.mk (blk_below (g := ga0) (o := .cells #[.slice A0_0 l0_0.length c0_0, .slice A0_1 l0_1.length c0_1] 25 (0, 0)) BA0.out hb); have HS_ := Aside0.mk (Kd.R_below HS.out hb); have HG_ := Aside0.mk (Kd.R_below HG.out hb); clear hb hd HO; clear HB BA0 HS HG; have HB := HB_; have BA0 := BA0_; have HS := HS_; have HG := HG_; clear HB_ BA0_ HS_ HG_; clear hcBA00 hfBA00 hcBA01 hfBA01; have hcBA00 : w19.cell? ⟨ga0, 0, none⟩ = some (.slice A0_0 l0_0.length c0_0) := (blk_cell BA0.out 0).trans rfl; have hfBA00 := blk_frozen BA0.out 0; have hcBA01 : w19.cell? ⟨ga0, 1, none⟩ = some (.slice A0_1 l0_1.length c0_1) := (blk_cell BA0.out 1).trans rfl; have hfBA01 := blk_frozen BA0.out 1))
  go_wp2_with (first | (go_at_call 18; (with_reducible refine (laws_heldInt64S.calls k Ag cg lk 1 th _ (Kd.R_reads' HG.out).2.2 (by have z_ := (Kd.R_reads' HG.out).2.1; rw [HL.out] at z_; exact z_) BH.out).mono ?_); rintro e w20 ⟨rfl, hd⟩; have hb := DB.out hd; have HB_ := Aside0.mk (below_step HB.out hb); have BA0_ := Aside0.mk (blk_below (g := ga0) (o := .cells #[.slice A0_0 l0_0.length c0_0, .slice A0_1 l0_1.length c0_1] 25 (0, 0)) BA0.out hb); have HS_ := Aside0.mk (Kd.R_below HS.out hb); have HG_ := Aside0.mk (Kd.R_below HG.out hb); clear hb hd; clear HB BA0 HS HG; have HB := HB_; have BA0 := BA0_; have HS := HS_; have HG := HG_; clear HB_ BA0_ HS_ HG_; clear hcBA00 hfBA00 hcBA01 hfBA01; have hcBA00 : w20.cell? ⟨ga0, 0, none⟩ = some (.slice A0_0 l0_0.length c0_0) := (blk_cell BA0.out 0).trans rfl; have hfBA00 := blk_frozen BA0.out 0; have hcBA01 : w20.cell? ⟨ga0, 1, none⟩ = some (.slice A0_1 l0_1.length c0_1) := (blk_cell BA0.out 1).trans rfl; have hfBA01 := blk_frozen BA0.out 1))
  go_ret
  exact ⟨by first | rfl | (simp; done) | (simp [*]; done) | (simp [Int.tdiv_eq_ediv_of_nonneg, *]; done), by repeat (first | (with_reducible first | exact HB.out | apply below_alloc | apply pw_below_drewN | apply below_drew1) | exact HB.out)⟩

def W55 (x : S55) : Prop := (Lit.int .i64 x.f0).wf = true ∧ Opn.WfL (fun a_ => (Lit.int .i64 a_).wf = true) x.f1
theorem cut55 {α : Type} (cs : List α) (h : cs.length = 2) : cs = (cs.drop 0).take 1 ++ ((cs.drop 1).take 1) := by
 match cs, h with
 | [c0, c1], _ => rfl
theorem open55 : Opn.Opens Try.prog 55 k55 W55 := by
 intro H enc w base sp held fuel cs x h
 obtain ⟨xs, n, rfl, _, hl, hlen, hf⟩ := DataW.trod_struct Try.underlying55 h
 obtain ⟨y0, h0⟩ := Opn.field_at hlen hf 0 2 0 1 ⟨_, rfl, rfl, rfl⟩ (by kernel_rfl)
 obtain ⟨y1, h1⟩ := Opn.field_at hlen hf 1 22 1 1 ⟨_, rfl, rfl, rfl⟩ (by kernel_rfl)
 have hm : cs.length = 2 := hl.trans (by kernel_rfl)
 obtain ⟨a0, K0, w0⟩ := (Opn.opens_int Try.underlying2) h0
 obtain ⟨a1, K1, w1⟩ := (Opn.opens_slice (0 : Int) Try.underlying22 (by kernel_rfl) (Opn.opens_int Try.underlying2)) h1
 have hcs := cut55 cs hm
 exact ⟨⟨a0, a1⟩, ⟨_, _, hcs, K0, K1⟩, ⟨w0, w1⟩⟩
def W25 (x : S25) : Prop := Opn.WfL (fun a_ => (Lit.int .i64 a_).wf = true) x.f0 ∧ Opn.WfL W55 x.f1
theorem cut25 {α : Type} (cs : List α) (h : cs.length = 2) : cs = (cs.drop 0).take 1 ++ ((cs.drop 1).take 1) := by
 match cs, h with
 | [c0, c1], _ => rfl
theorem open25 : Opn.Opens Try.prog 25 k25 W25 := by
 intro H enc w base sp held fuel cs x h
 obtain ⟨xs, n, rfl, _, hl, hlen, hf⟩ := DataW.trod_struct Try.underlying25 h
 obtain ⟨y0, h0⟩ := Opn.field_at hlen hf 0 22 0 1 ⟨_, rfl, rfl, rfl⟩ (by kernel_rfl)
 obtain ⟨y1, h1⟩ := Opn.field_at hlen hf 1 23 1 1 ⟨_, rfl, rfl, rfl⟩ (by kernel_rfl)
 have hm : cs.length = 2 := hl.trans (by kernel_rfl)
 obtain ⟨a0, K0, w0⟩ := (Opn.opens_slice (0 : Int) Try.underlying22 (by kernel_rfl) (Opn.opens_int Try.underlying2)) h0
 obtain ⟨a1, K1, w1⟩ := (Opn.opens_slice z55 Try.underlying23 (by kernel_rfl) open55) h1
 have hcs := cut25 cs hm
 exact ⟨⟨a0, a1⟩, ⟨_, _, hcs, K0, K1⟩, ⟨w0, w1⟩⟩
def laws_FnExactFaceOf.Pure : Prop := ∀ (l0_0 : List Int) (l0_1 : List (S55)) (a1 : Int) (a2 : Int), Opn.WfL (fun a_ => (Lit.int .i64 a_).wf = true) l0_0 → Opn.WfL W55 l0_1 → (Lit.int .i64 a1).wf = true → (Lit.int .i64 a2).wf = true → ∃ k, laws_FnExactFaceOf.f k l0_0 l0_1 a1 a2 = some true
theorem laws_FnExactFaceOf.walk (P : laws_FnExactFaceOf.Pure) (A0_0 : Option Addr) (c0_0 : Nat) (l0_0 : List Int) (A0_1 : Option Addr) (c0_1 : Nat) (l0_1 : List (S55)) (a1 : Int) (a2 : Int) (w : World) (hr0_0 : Kd.C (Kd.int .i64) w A0_0 l0_0.length l0_0) (hc0_0 : l0_0.length ≤ c0_0) (hr0_1 : Kd.C k55 w A0_1 l0_1.length l0_1) (hc0_1 : l0_1.length ≤ c0_1) (w0_0 : Opn.WfL (fun a_ => (Lit.int .i64 a_).wf = true) l0_0) (w0_1 : Opn.WfL W55 l0_1) (w1 : (Lit.int .i64 a1).wf = true) (w2 : (Lit.int .i64 a2).wf = true) :
  Calls Try.prog 3 #[.agg #[.slice A0_0 l0_0.length c0_0, .slice A0_1 l0_1.length c0_1], .int .i64 a1, .int .i64 a2] w fun e w' => e = .returned (.bool true) ∧ Below w.heap.size w w' := by
 obtain ⟨k, h⟩ := P l0_0 l0_1 a1 a2 w0_0 w0_1 w1 w2
 refine (laws_FnExactFaceOf.calls k A0_0 c0_0 l0_0 A0_1 c0_1 l0_1 a1 a2 true w hr0_0 hc0_0 hr0_1 hc0_1 h).mono ?_
 rintro e w' ⟨rfl, hd⟩
 exact ⟨rfl, hd⟩

end Go.Proofs.Ytgfpbiaocokdeaa.P
/- Plain facts on numbers and lists that every loop's lemma uses. -/
namespace Go.Proofs.Ytgfpbiaocokdeaa.P
open Go.RowKit Go.Proofs.Ytgfpbiaocokdeaa.P Go.Proofs.YtgfpbiaocokdeaaW.PrintWords Go.Proofs.YtgfpbiaocokdeaaW.PrintLast Go.Proofs.YtgfpbiaocokdeaaW.PrintMore
set_option linter.unusedVariables false
set_option linter.unusedSimpArgs false
theorem w64 (x : Int) (h1 : -9223372036854775808 ≤ x) (h2 : x ≤ 9223372036854775807) : wrap64 x = x := by unfold wrap64; omega
theorem w64s (i : Nat) (h : i < 9223372036854775807) : wrap64 ((i : Int) + 1) = ((i + 1 : Nat) : Int) := by unfold wrap64; omega
theorem rd_at (l : List Int) (i : Nat) (h : i < l.length) : rd l (i : Int) = l[i] := by
  unfold rd
  rw [Int.toNat_natCast, List.getD_eq_getElem?_getD, List.getElem?_eq_getElem h]
  rfl
theorem drop_at (l : List Int) (i : Nat) (h : i < l.length) : l.drop i = rd l (i : Int) :: l.drop (i + 1) := by
  rw [rd_at l i h, List.drop_eq_getElem_cons h]
theorem fill_step {α : Type} (l acc : List α) (i : Nat) (x : α) (hi : i < l.length) (hl : acc.length = l.length) (h : acc.take i = l.take i) (hx : l[i] = x) : (acc.set i x).take (i + 1) = l.take (i + 1) := by
  subst hx
  have hi2 : i < (acc.set i l[i]).length := by rw [List.length_set]; omega
  rw [List.take_succ_eq_append_getElem hi2, List.take_succ_eq_append_getElem hi, List.getElem_set_self, List.take_set_of_le (Nat.le_refl i), h]
def iota (m : Int) : Nat → List Int
  | 0 => []
  | n + 1 => m :: iota (m + 1) n
theorem iota_length (m : Int) (n : Nat) : (iota m n).length = n := by
  induction n generalizing m with
  | zero => rfl
  | succ n ih => simp [iota, ih]
theorem iota_get (m : Int) (n i : Nat) (h : i < (iota m n).length) : (iota m n)[i] = m + i := by
  induction n generalizing m i with
  | zero => rw [iota_length] at h; omega
  | succ n ih =>
    cases i with
    | zero => simp [iota]
    | succ i =>
      have h2 : i < (iota (m + 1) n).length := by rw [iota_length] at h ⊢; omega
      simp only [iota, List.getElem_cons_succ]
      rw [ih (m + 1) i h2]
      omega
theorem bind_some_ {α β : Type} (a : α) (f : α → Option β) : (some a).bind f = f a := rfl
theorem ite_tt (b r : Bool) : (if b = true then some r else some false) = some (b && r) := by cases b <;> rfl
theorem ite_ff (p : Prop) [Decidable p] (r : Bool) : (if p then some false else some r) = some (!decide p && r) := by by_cases h : p <;> simp [h]
theorem not_ge_dec (a b : Int) : (!decide (a ≥ b)) = decide (a < b) := by by_cases h : a < b <;> simp [h] <;> omega

end Go.Proofs.Ytgfpbiaocokdeaa.P
/- Two lists of numbers are compared. -/
namespace Go.Proofs.Ytgfpbiaocokdeaa.P
open Go.RowKit Go.Proofs.Ytgfpbiaocokdeaa.P Go.Proofs.YtgfpbiaocokdeaaW.PrintWords Go.Proofs.YtgfpbiaocokdeaaW.PrintLast Go.Proofs.YtgfpbiaocokdeaaW.PrintMore
set_option linter.unusedVariables false
set_option linter.unusedSimpArgs false
theorem eqInt_loop (a b : List Int) (hl : a.length = b.length) (hb : a.length ≤ 9223372036854775807) : ∀ (d k i : Nat), i + d = a.length → d < k → laws_eqInt64S.l0 k a b i = some (decide (a.drop i = b.drop i)) := by
  intro d
  induction d with
  | zero =>
    intro k i hi hk
    obtain ⟨k, rfl⟩ : ∃ m, k = m + 1 := ⟨k - 1, by omega⟩
    simp only [laws_eqInt64S.l0]
    rw [if_neg (by omega), List.drop_of_length_le (by omega), List.drop_of_length_le (by omega)]
    simp
  | succ d ih =>
    intro k i hi hk
    obtain ⟨k, rfl⟩ : ∃ m, k = m + 1 := ⟨k - 1, by omega⟩
    simp only [laws_eqInt64S.l0]
    rw [if_pos (by omega), if_pos (by omega), if_pos (by omega), w64s i (by omega), ih k (i + 1) (by omega) (by omega), drop_at a i (by omega), drop_at b i (by omega)]
    by_cases h : rd a i = rd b i
    · rw [if_pos h]; simp [h]
    · rw [if_neg h]; simp [h]
theorem eqInt_is (k : Nat) (a b : List Int) (hb : a.length ≤ 9223372036854775807) (hk : a.length < k) : laws_eqInt64S.f k a b = some (decide (a = b)) := by
  unfold laws_eqInt64S.f
  by_cases h : a.length = b.length
  · rw [if_pos (by omega)]
    have := eqInt_loop a b h hb a.length k 0 (by omega) hk
    simpa using this
  · rw [if_neg (by omega)]
    have : a ≠ b := fun e => h (by rw [e])
    simp [this]

end Go.Proofs.Ytgfpbiaocokdeaa.P
/- A list of numbers is copied. -/
namespace Go.Proofs.Ytgfpbiaocokdeaa.P
open Go.RowKit Go.Proofs.Ytgfpbiaocokdeaa.P Go.Proofs.YtgfpbiaocokdeaaW.PrintWords Go.Proofs.YtgfpbiaocokdeaaW.PrintLast Go.Proofs.YtgfpbiaocokdeaaW.PrintMore
set_option linter.unusedVariables false
set_option linter.unusedSimpArgs false
theorem toInt_loop (l : List Int) (hb : l.length ≤ 9223372036854775807) : ∀ (d k i : Nat) (acc : List Int), i + d = l.length → d < k → acc.length = l.length → acc.take i = l.take i → laws_toInt64S.l0 k l acc i = some l := by
  intro d
  induction d with
  | zero =>
    intro k i acc hi hk ha ht
    obtain ⟨k, rfl⟩ : ∃ m, k = m + 1 := ⟨k - 1, by omega⟩
    simp only [laws_toInt64S.l0]
    rw [if_neg (by omega)]
    rw [List.take_of_length_le (by omega), List.take_of_length_le (by omega)] at ht
    rw [ht]
  | succ d ih =>
    intro k i acc hi hk ha ht
    obtain ⟨k, rfl⟩ : ∃ m, k = m + 1 := ⟨k - 1, by omega⟩
    simp only [laws_toInt64S.l0]
    rw [if_pos (by omega), if_pos (by omega), if_pos (by omega), w64s i (by omega), Int.toNat_natCast]
    exact ih k (i + 1) _ (by omega) (by omega) (by rw [List.length_set]; exact ha) (fill_step l acc i _ (by omega) ha ht (rd_at l i (by omega)).symm)
theorem toInt_is (k : Nat) (l : List Int) (hb : l.length ≤ 35184372088832) (hk : l.length < k) : laws_toInt64S.f k l = some l := by
  unfold laws_toInt64S.f
  rw [if_pos (by omega), if_pos (by omega)]
  exact toInt_loop l (by omega) l.length k 0 _ (by omega) hk (by simp) (by simp)

end Go.Proofs.Ytgfpbiaocokdeaa.P
/- A list of the law's own structs that hold lists is copied into the program's, measured, and equal to itself. -/
namespace Go.Proofs.Ytgfpbiaocokdeaa.P
open Go.RowKit Go.Proofs.Ytgfpbiaocokdeaa.P Go.Proofs.YtgfpbiaocokdeaaW.PrintWords Go.Proofs.YtgfpbiaocokdeaaW.PrintLast Go.Proofs.YtgfpbiaocokdeaaW.PrintMore
set_option linter.unusedVariables false
set_option linter.unusedSimpArgs false
def toHole (x : S55) : S59 := ⟨x.f0, x.f1⟩
theorem rdLHole_at (l : List S55) (i : Nat) (h : i < l.length) : rd_T55 l (i : Int) = l[i] := by
  unfold rd_T55
  rw [Int.toNat_natCast, List.getD_eq_getElem?_getD, List.getElem?_eq_getElem h]
  rfl
theorem rdHole_at (l : List S59) (i : Nat) (h : i < l.length) : rd_T59 l (i : Int) = l[i] := by
  unfold rd_T59
  rw [Int.toNat_natCast, List.getD_eq_getElem?_getD, List.getElem?_eq_getElem h]
  rfl
def shortH (l : List S59) : Prop := l.length ≤ 1048576 ∧ ∀ s ∈ l, s.f1.length ≤ 1048576
theorem shortH_at {l : List S59} (h : shortH l) (i : Nat) (hi : i < l.length) : (rd_T59 l (i : Int)).f1.length ≤ 1048576 := by
  rw [rdHole_at l i hi]
  exact h.2 _ (List.getElem_mem hi)
theorem toHoleS_loop (l : List S55) (hb : l.length ≤ 9223372036854775806) (hs : ∀ s ∈ l, s.f1.length ≤ 1048576) : ∀ (d k i : Nat) (acc : List S59), i + d = l.length → d + 1048576 < k → acc.length = l.length → acc.take i = (l.map toHole).take i → laws_toHoleS.l0 k l acc i = some (l.map toHole) := by
  intro d
  induction d with
  | zero =>
    intro k i acc hi hk ha ht
    obtain ⟨k, rfl⟩ : ∃ m, k = m + 1 := ⟨k - 1, by omega⟩
    simp only [laws_toHoleS.l0]
    rw [if_neg (by omega)]
    rw [List.take_of_length_le (by omega), List.take_of_length_le (by rw [List.length_map]; omega)] at ht
    rw [ht]
  | succ d ih =>
    intro k i acc hi hk ha ht
    obtain ⟨k, rfl⟩ : ∃ m, k = m + 1 := ⟨k - 1, by omega⟩
    have h1 : (rd_T55 l (i : Int)).f1.length ≤ 1048576 := by
      rw [rdLHole_at l i (by omega)]
      exact hs _ (List.getElem_mem _)
    simp only [laws_toHoleS.l0, laws_toHole.f]
    rw [if_pos (by omega), if_pos (by omega), toInt_is k _ (by omega) (by omega), bind_some_, bind_some_, if_pos (by omega), w64s i (by omega), Int.toNat_natCast]
    refine ih k (i + 1) _ (by omega) (by omega) (by rw [List.length_set]; exact ha) (fill_step (l.map toHole) acc i _ (by rw [List.length_map]; omega) (by rw [List.length_map]; exact ha) ht ?_)
    rw [List.getElem_map, rdLHole_at l i (by omega)]
    rfl
theorem toHoleS_is (k : Nat) (l : List S55) (hb : l.length ≤ 1048576) (hs : ∀ s ∈ l, s.f1.length ≤ 1048576) (hk : l.length + 1048576 < k) : laws_toHoleS.f k l = some (l.map toHole) := by
  unfold laws_toHoleS.f
  rw [if_pos (by omega), if_pos (by omega)]
  exact toHoleS_loop l (by omega) hs l.length k 0 _ (by omega) hk (by simp) (by simp)
theorem toHole_short {l : List S55} (hb : l.length ≤ 1048576) (hs : ∀ s ∈ l, s.f1.length ≤ 1048576) : shortH (l.map toHole) := by
  refine ⟨by rw [List.length_map]; exact hb, ?_⟩
  intro s h
  obtain ⟨t, h1, rfl⟩ := List.mem_map.mp h
  exact hs t h1
theorem szHoleS_loop (l : List S55) (hb : l.length ≤ 9223372036854775806) (hw : ∀ s ∈ l, s.f1.length ≤ 9223372036854775807) : ∀ (d k i : Nat) (left : Int), i + d = l.length → d < k → 0 ≤ left → left ≤ 1048576 → (∀ j : Nat, j < i → (rd_T55 l (j : Int)).f1.length ≤ 1048576) → ∃ r, laws_szHoleS.l0 k l left i = some r ∧ (r < 0 ∨ (0 ≤ r ∧ ∀ s ∈ l, s.f1.length ≤ 1048576)) := by
  intro d
  induction d with
  | zero =>
    intro k i left hi hk h0 h1 hj
    obtain ⟨k, rfl⟩ : ∃ m, k = m + 1 := ⟨k - 1, by omega⟩
    simp only [laws_szHoleS.l0]
    rw [if_neg (by omega)]
    refine ⟨_, rfl, Or.inr ⟨h0, ?_⟩⟩
    intro s hs
    obtain ⟨j, hj1, rfl⟩ := List.getElem_of_mem hs
    have := hj j (by omega)
    rwa [rdLHole_at l j hj1] at this
  | succ d ih =>
    intro k i left hi hk h0 h1 hj
    obtain ⟨k, rfl⟩ : ∃ m, k = m + 1 := ⟨k - 1, by omega⟩
    have h2 : (rd_T55 l (i : Int)).f1.length ≤ 9223372036854775807 := by
      rw [rdLHole_at l i (by omega)]
      exact hw _ (List.getElem_mem _)
    simp only [laws_szHoleS.l0, laws_szHole.f, laws_szInt64S.f]
    rw [if_pos (by omega), if_pos (by omega), w64 (left - ((rd_T55 l (i : Int)).f1.length : Int)) (by omega) (by omega), w64s i (by omega)]
    by_cases h3 : left - ((rd_T55 l (i : Int)).f1.length : Int) < 0
    · rw [if_pos h3, bind_some_, if_pos (by omega), bind_some_, if_pos (by omega)]
      exact ⟨_, rfl, Or.inl (by omega)⟩
    · rw [if_neg h3, bind_some_, if_neg h3, bind_some_, if_neg h3]
      refine ih k (i + 1) _ (by omega) (by omega) (by omega) (by omega) ?_
      intro j hj2
      by_cases e : j = i
      · rw [e]; omega
      · exact hj j (by omega)
theorem szHoleS_is (k : Nat) (l : List S55) (left : Int) (hb : l.length ≤ 9223372036854775807) (hw : ∀ s ∈ l, s.f1.length ≤ 9223372036854775807) (hl : 0 ≤ left) (hl2 : left ≤ 1048576) (hk : 1048577 < k) : ∃ r, laws_szHoleS.f k l left = some r ∧ (r < 0 ∨ (l.length ≤ 1048576 ∧ ∀ s ∈ l, s.f1.length ≤ 1048576)) := by
  unfold laws_szHoleS.f
  rw [w64 (left - (l.length : Int)) (by omega) (by omega)]
  by_cases h3 : left - (l.length : Int) < 0
  · rw [if_pos h3]
    exact ⟨_, rfl, Or.inl (by omega)⟩
  · rw [if_neg h3]
    obtain ⟨r, hr, hs⟩ := szHoleS_loop l (by omega) hw l.length k 0 (left - (l.length : Int)) (by omega) (by omega) (by omega) (by omega) (by intro j hj; omega)
    exact ⟨r, hr, hs.imp id (fun h => ⟨by omega, h.2⟩)⟩
theorem eqHoleS_loop (a : List S59) (hs : shortH a) : ∀ (d k i : Nat), i + d = a.length → d + 1048576 < k → laws_eqHoleS.l0 k a a i = some true := by
  intro d
  have hb := hs.1
  induction d with
  | zero =>
    intro k i hi hk
    obtain ⟨k, rfl⟩ : ∃ m, k = m + 1 := ⟨k - 1, by omega⟩
    simp only [laws_eqHoleS.l0]
    rw [if_neg (by omega)]
  | succ d ih =>
    intro k i hi hk
    obtain ⟨k, rfl⟩ : ∃ m, k = m + 1 := ⟨k - 1, by omega⟩
    have h1 := shortH_at hs i (by omega)
    simp only [laws_eqHoleS.l0, laws_eqHole.f, if_true]
    rw [if_pos (by omega), if_pos (by omega), if_pos (by omega), eqInt_is k _ _ (by omega) (by omega), bind_some_, if_pos (decide_eq_true rfl), bind_some_, if_pos rfl, w64s i (by omega)]
    exact ih k (i + 1) (by omega) (by omega)
theorem eqHoleS_refl (k : Nat) (a : List S59) (hs : shortH a) (hk : a.length + 1048576 < k) : laws_eqHoleS.f k a a = some true := by
  unfold laws_eqHoleS.f
  rw [if_pos rfl]
  exact eqHoleS_loop a hs a.length k 0 (by omega) hk
theorem szHoleS_le0 (l : List S55) (hb : l.length ≤ 9223372036854775806) (hw : ∀ s ∈ l, s.f1.length ≤ 9223372036854775807) : ∀ (d k i : Nat) (left : Int), i + d = l.length → d < k → 0 ≤ left → left ≤ 1048576 → ∀ r, laws_szHoleS.l0 k l left i = some r → r ≤ 1048576 := by
  intro d
  induction d with
  | zero =>
    intro k i left hi hk h0 h1 r hr
    obtain ⟨k, rfl⟩ : ∃ m, k = m + 1 := ⟨k - 1, by omega⟩
    simp only [laws_szHoleS.l0] at hr
    rw [if_neg (by omega)] at hr
    have := Option.some.inj hr
    omega
  | succ d ih =>
    intro k i left hi hk h0 h1 r hr
    obtain ⟨k, rfl⟩ : ∃ m, k = m + 1 := ⟨k - 1, by omega⟩
    have h2 : (rd_T55 l (i : Int)).f1.length ≤ 9223372036854775807 := by
      rw [rdLHole_at l i (by omega)]
      exact hw _ (List.getElem_mem _)
    simp only [laws_szHoleS.l0, laws_szHole.f, laws_szInt64S.f] at hr
    rw [if_pos (by omega), if_pos (by omega), w64 (left - ((rd_T55 l (i : Int)).f1.length : Int)) (by omega) (by omega), w64s i (by omega)] at hr
    by_cases h3 : left - ((rd_T55 l (i : Int)).f1.length : Int) < 0
    · rw [if_pos h3, bind_some_, if_pos (by omega), bind_some_, if_pos (by omega)] at hr
      have := Option.some.inj hr
      omega
    · rw [if_neg h3, bind_some_, if_neg h3, bind_some_, if_neg h3] at hr
      exact ih k (i + 1) _ (by omega) (by omega) (by omega) (by omega) r hr
theorem szHoleS_le (k : Nat) (l : List S55) (left : Int) (hb : l.length ≤ 9223372036854775807) (hw : ∀ s ∈ l, s.f1.length ≤ 9223372036854775807) (hl : 0 ≤ left) (hl2 : left ≤ 1048576) (hk : 1048577 < k) (r : Int) (hr : laws_szHoleS.f k l left = some r) : r ≤ 1048576 := by
  unfold laws_szHoleS.f at hr
  rw [w64 (left - (l.length : Int)) (by omega) (by omega)] at hr
  by_cases h3 : left - (l.length : Int) < 0
  · rw [if_pos h3] at hr
    have := Option.some.inj hr
    omega
  · rw [if_neg h3] at hr
    exact szHoleS_le0 l (by omega) hw l.length k 0 _ (by omega) (by omega) (by omega) (by omega) r hr

end Go.Proofs.Ytgfpbiaocokdeaa.P
/- A test at each of some numbers that follow one another. -/
namespace Go.Proofs.Ytgfpbiaocokdeaa.P
open Go.RowKit Go.Proofs.Ytgfpbiaocokdeaa.P Go.Proofs.YtgfpbiaocokdeaaW.PrintWords Go.Proofs.YtgfpbiaocokdeaaW.PrintLast Go.Proofs.YtgfpbiaocokdeaaW.PrintMore
set_option linter.unusedVariables false
set_option linter.unusedSimpArgs false
def upTo (p : Nat → Bool) : Nat → Nat → Bool
  | 0, _ => true
  | d + 1, i => p i && upTo p d (i + 1)
theorem upTo_iff (p : Nat → Bool) : ∀ (d i : Nat), upTo p d i = true ↔ ∀ j, i ≤ j → j < i + d → p j = true := by
  intro d
  induction d with
  | zero => intro i; simp [upTo]; intro j h1 h2; omega
  | succ d ih =>
    intro i
    simp only [upTo, Bool.and_eq_true, ih]
    constructor
    · intro ⟨h0, h⟩ j h1 h2
      by_cases e : i = j
      · rw [← e]; exact h0
      · exact h j (by omega) (by omega)
    · intro h
      exact ⟨h i (Nat.le_refl _) (by omega), fun j h1 h2 => h j (by omega) (by omega)⟩

end Go.Proofs.Ytgfpbiaocokdeaa.P
/- What is asked of a ground, and the tops of its classes, plainly. -/
namespace Go.Proofs.Ytgfpbiaocokdeaa.P
open Go.RowKit Go.Proofs.Ytgfpbiaocokdeaa.P Go.Proofs.YtgfpbiaocokdeaaW.PrintWords Go.Proofs.YtgfpbiaocokdeaaW.PrintLast Go.Proofs.YtgfpbiaocokdeaaW.PrintMore
set_option linter.unusedVariables false
set_option linter.unusedSimpArgs false
def dnOk (l : List Int) (i : Nat) : Bool := decide (i = 0) || decide (rd l (i : Int) ≤ rd l ((i - 1 : Nat) : Int))
def topsOk (n : Int) (l : List Int) : Bool := decide ((l.length : Int) = n) && (impl_areWithin.all (-100000) 100000 l && upTo (dnOk l) l.length 0)
def holeOk (n : Int) (hs : List S59) (i : Nat) : Bool := decide (0 ≤ (rd_T59 hs (i : Int)).f0 ∧ (rd_T59 hs (i : Int)).f0 ≤ 60) && (topsOk n (rd_T59 hs (i : Int)).f1 && (decide (i = 0) || decide ((rd_T59 hs ((i - 1 : Nat) : Int)).f0 < (rd_T59 hs (i : Int)).f0)))
def grOk (ds : List Int) (hs : List S59) : Bool := decide (1 ≤ (ds.length : Int) ∧ (ds.length : Int) ≤ 4) && (impl_areWithin.all 1 3000 ds && (decide (1 ≤ (hs.length : Int) ∧ (hs.length : Int) ≤ 6) && upTo (holeOk ds.length hs) hs.length 0))
theorem upTo_and (p q : Nat → Bool) : ∀ d i : Nat, upTo (fun j => p j && q j) d i = (upTo p d i && upTo q d i)
  | 0, _ => rfl
  | d + 1, i => by
    simp only [upTo, upTo_and p q d (i + 1)]
    cases p i <;> cases q i <;> cases upTo p d (i + 1) <;> cases upTo q d (i + 1) <;> rfl
theorem all_upTo (lo hi : Int) (l : List Int) : impl_areWithin.all lo hi l = upTo (fun i => decide (lo ≤ rd l (i : Int) ∧ rd l (i : Int) ≤ hi)) l.length 0 := by
  rw [Bool.eq_iff_iff, upTo_iff]
  unfold impl_areWithin.all
  rw [List.all_eq_true]
  constructor
  · intro h j _ hj
    have hj2 : j < l.length := by omega
    have := h _ (List.getElem_mem hj2)
    rw [rd_at l j hj2]
    exact this
  · intro h x hx
    obtain ⟨j, hj, rfl⟩ := List.getElem_of_mem hx
    have := h j (by omega) (by omega)
    rw [rd_at l j hj] at this
    exact this
theorem grOk_in {ds : List Int} {hs : List S59} (h : grOk ds hs = true) : (1 ≤ ds.length ∧ ds.length ≤ 4) ∧ (1 ≤ hs.length ∧ hs.length ≤ 6) ∧ (∀ i : Nat, i < ds.length → 1 ≤ rd ds (i : Int) ∧ rd ds (i : Int) ≤ 3000) ∧ ∀ i : Nat, i < hs.length → holeOk ds.length hs i = true := by
  unfold grOk at h
  rw [all_upTo] at h
  simp only [Bool.and_eq_true, decide_eq_true_eq] at h
  obtain ⟨h1, h2, h3, h4⟩ := h
  refine ⟨by omega, by omega, ?_, ?_⟩
  · intro i hi
    have := (upTo_iff _ _ _).mp h2 i (by omega) (by omega)
    simpa using this
  · intro i hi
    exact (upTo_iff _ _ _).mp h4 i (by omega) (by omega)
theorem holeOk_in {n : Int} {hs : List S59} {i : Nat} (h : holeOk n hs i = true) : (0 ≤ (rd_T59 hs (i : Int)).f0 ∧ (rd_T59 hs (i : Int)).f0 ≤ 60) ∧ ((rd_T59 hs (i : Int)).f1.length : Int) = n ∧ (0 < i → (rd_T59 hs ((i - 1 : Nat) : Int)).f0 < (rd_T59 hs (i : Int)).f0) := by
  unfold holeOk topsOk at h
  simp only [Bool.and_eq_true, Bool.or_eq_true, decide_eq_true_eq] at h
  refine ⟨h.1, h.2.1.1, ?_⟩
  intro hi
  rcases h.2.2 with h2 | h2
  · omega
  · exact h2
def floorV (a b : Int) : Int := if Int.tmod a b < 0 then wrap64 (wrap64 (Int.tdiv a b) - 1) else wrap64 (Int.tdiv a b)
def interV (xr yr a p q : Int) : Int := wrap64 (p + floorV (wrap64 (wrap64 (q - p) * wrap64 (a - xr))) (wrap64 (yr - xr)))
def inter (xr yr a : Int) (xt yt : List Int) : Nat → Nat → List Int
  | 0, _ => []
  | d + 1, i => interV xr yr a (rd xt (i : Int)) (rd yt (i : Int)) :: inter xr yr a xt yt d (i + 1)
theorem inter_len (xr yr a : Int) (xt yt : List Int) : ∀ d i : Nat, (inter xr yr a xt yt d i).length = d
  | 0, _ => rfl
  | d + 1, i => by simp [inter, inter_len xr yr a xt yt d (i + 1)]
def topsAt (hs : List S59) (a : Int) : List Int :=
  if holeIx a hs 0 < 0 then (rd_T59 hs ((hs.length - 1 : Nat) : Int)).f1
  else if holeIx a hs 0 = 0 ∨ (rd_T59 hs (holeIx a hs 0)).f0 = a then (rd_T59 hs (holeIx a hs 0)).f1
  else inter (rd_T59 hs (((holeIx a hs 0).toNat - 1 : Nat) : Int)).f0 (rd_T59 hs (holeIx a hs 0)).f0 a (rd_T59 hs (((holeIx a hs 0).toNat - 1 : Nat) : Int)).f1 (rd_T59 hs (holeIx a hs 0)).f1 (rd_T59 hs (((holeIx a hs 0).toNat - 1 : Nat) : Int)).f1.length 0
theorem holeIx_go (a : Int) : ∀ (l : List S59) (i : Int), (holeIx a l i = -1 ∧ ∀ h ∈ l, h.f0 < a) ∨ ∃ j : Nat, ∃ hj : j < l.length, holeIx a l i = i + j ∧ a ≤ l[j].f0 ∧ ∀ m : Nat, ∀ hm : m < j, (l[m]'(by omega)).f0 < a
  | [], i => Or.inl ⟨rfl, by simp⟩
  | h :: l, i => by
    simp only [holeIx]
    by_cases c : h.f0 ≥ a
    · rw [if_pos c]
      exact Or.inr ⟨0, by simp, by simp, c, fun m hm => by omega⟩
    · rw [if_neg c]
      rcases holeIx_go a l (i + 1) with ⟨h1, h2⟩ | ⟨j, hj, h1, h2, h3⟩
      · refine Or.inl ⟨h1, ?_⟩
        intro q hq
        rcases List.mem_cons.mp hq with e | e
        · rw [e]; omega
        · exact h2 q e
      · refine Or.inr ⟨j + 1, by simp; omega, by rw [h1]; omega, by simpa using h2, ?_⟩
        intro m hm
        cases m with
        | zero => simp; omega
        | succ m => simpa using h3 m (by omega)
theorem holeIx_is (a : Int) (l : List S59) : (holeIx a l 0 = -1 ∧ ∀ i : Nat, i < l.length → (rd_T59 l (i : Int)).f0 < a) ∨ ∃ j : Nat, j < l.length ∧ holeIx a l 0 = j ∧ a ≤ (rd_T59 l (j : Int)).f0 ∧ ∀ m : Nat, m < j → (rd_T59 l (m : Int)).f0 < a := by
  rcases holeIx_go a l 0 with ⟨h1, h2⟩ | ⟨j, hj, h1, h2, h3⟩
  · refine Or.inl ⟨h1, ?_⟩
    intro i hi
    rw [rdHole_at l i hi]
    exact h2 _ (List.getElem_mem hi)
  · refine Or.inr ⟨j, hj, by rw [h1]; omega, by rw [rdHole_at l j hj]; exact h2, ?_⟩
    intro m hm
    rw [rdHole_at l m (by omega)]
    exact h3 m hm
theorem rise_lt {n : Int} {hs : List S59} (h : ∀ i : Nat, i < hs.length → holeOk n hs i = true) (i : Nat) : ∀ d : Nat, i + d + 1 < hs.length → (rd_T59 hs (i : Int)).f0 < (rd_T59 hs ((i + d + 1 : Nat) : Int)).f0
  | 0, hd => by
    have := (holeOk_in (h (i + 0 + 1) hd)).2.2 (by omega)
    simpa using this
  | d + 1, hd => by
    have h1 := rise_lt h i d (by omega)
    have h2 := (holeOk_in (h (i + (d + 1) + 1) hd)).2.2 (by omega)
    have e : ((i + (d + 1) + 1 - 1 : Nat) : Int) = ((i + d + 1 : Nat) : Int) := by omega
    rw [e] at h2
    omega
theorem topsAt_len {ds : List Int} {hs : List S59} (h : grOk ds hs = true) (a : Int) : (topsAt hs a).length = ds.length := by
  obtain ⟨h1, h2, h3, h4⟩ := grOk_in h
  have hl : ∀ i : Nat, i < hs.length → (rd_T59 hs (i : Int)).f1.length = ds.length := fun i hi => by
    have := (holeOk_in (h4 i hi)).2.1
    omega
  unfold topsAt
  rcases holeIx_is a hs with ⟨e, _⟩ | ⟨j, hj, e, _, _⟩
  · rw [e, if_pos (by omega)]
    exact hl _ (by omega)
  · rw [e, if_neg (by omega)]
    split
    · exact hl j hj
    · rw [inter_len, Int.toNat_natCast]
      exact hl _ (by omega)

end Go.Proofs.Ytgfpbiaocokdeaa.P
/- The tops of the classes at a ring, as the program reckons them. -/
namespace Go.Proofs.Ytgfpbiaocokdeaa.P
open Go.RowKit Go.Proofs.Ytgfpbiaocokdeaa.P Go.Proofs.YtgfpbiaocokdeaaW.PrintWords Go.Proofs.YtgfpbiaocokdeaaW.PrintLast Go.Proofs.YtgfpbiaocokdeaaW.PrintMore
set_option linter.unusedVariables false
set_option linter.unusedSimpArgs false
theorem clone_is (l : List Int) (hb : l.length ≤ 1048576) : slices_Clone_int64_int64.f l = some l := by
  unfold slices_Clone_int64_int64.f
  rw [if_pos (by omega)]
theorem implInter_l0 (xr yr a : Int) (xt yt : List Int) (hl : yt.length = xt.length) (hb : xt.length ≤ 1048576) (hne : wrap64 (yr - xr) ≠ 0) (acc0 : List Int) :
    ∀ (d k c : Nat) (acc : List Int), c + d = xt.length → d < k → acc.length = c → impl_Ground_tops.l0 k acc xt xt.length c a xr xt yr yt = some (acc ++ inter xr yr a xt yt d c) := by
  intro d
  induction d with
  | zero =>
    intro k c acc hc hk ha
    obtain ⟨k, rfl⟩ : ∃ m, k = m + 1 := ⟨k - 1, by omega⟩
    simp only [impl_Ground_tops.l0, inter]
    rw [if_neg (by omega), List.append_nil]
  | succ d ih =>
    intro k c acc hc hk ha
    obtain ⟨k, rfl⟩ : ∃ m, k = m + 1 := ⟨k - 1, by omega⟩
    have hz := ih k (c + 1) (acc ++ [interV xr yr a (rd xt (c : Int)) (rd yt (c : Int))]) (by omega) (by omega) (by simp; omega)
    have e : ∀ u : Int, impl_floorOf.f u (wrap64 (yr - xr)) = some (floorV u (wrap64 (yr - xr))) := by
      intro u
      unfold impl_floorOf.f floorV
      rw [if_neg hne]
      split <;> rfl
    simp only [impl_Ground_tops.l0, inter]
    rw [if_pos (by omega), if_pos (by omega), if_pos (by omega), if_pos (by omega), e, bind_some_, if_pos (by omega), w64s c (by omega)]
    unfold interV at hz
    rw [hz]
    simp [interV]
theorem implAt_is (k : Nat) (ds : List Int) (hs : List S59) (a : Int) (h : grOk ds hs = true) (hk : 3000000 < k) : impl_Ground_tops.f k ds hs a = some (topsAt hs a) := by
  obtain ⟨h1, h2, h3, h4⟩ := grOk_in h
  have hl : ∀ i : Nat, i < hs.length → (rd_T59 hs (i : Int)).f1.length = ds.length := fun i hi => by
    have := (holeOk_in (h4 i hi)).2.1
    omega
  have hr : ∀ i : Nat, i < hs.length → 0 ≤ (rd_T59 hs (i : Int)).f0 ∧ (rd_T59 hs (i : Int)).f0 ≤ 60 := fun i hi => (holeOk_in (h4 i hi)).1
  have e1 : wrap64 ((hs.length : Int) - 1) = ((hs.length - 1 : Nat) : Int) := by rw [w64 _ (by omega) (by omega)]; omega
  unfold impl_Ground_tops.f impl_Ground_tops_1.f topsAt
  rw [bind_some_]
  rcases holeIx_is a hs with ⟨e, hall⟩ | ⟨j, hj, e, hge, hless⟩
  · rw [e, if_pos (by omega), if_pos (show (-1 : Int) < 0 by omega), e1, if_pos (by omega), if_pos (by omega), clone_is _ (by rw [hl _ (by omega)]; omega), bind_some_]
  · have hcl := clone_is (rd_T59 hs (j : Int)).f1 (by rw [hl _ hj]; omega)
    rw [e, if_neg (by omega), if_neg (show ¬ (j : Int) < 0 by omega)]
    by_cases c : (j : Int) = 0
    · rw [if_pos c, if_pos (show (0 : Int) ≤ (j : Int) by omega), if_pos (show (j : Int) < (hs.length : Int) by omega), hcl, bind_some_, if_pos (Or.inl c)]
    · rw [if_neg c, if_pos (show (0 : Int) ≤ (j : Int) by omega), if_pos (show (j : Int) < (hs.length : Int) by omega), hcl, bind_some_]
      by_cases c2 : (rd_T59 hs (j : Int)).f0 = a
      · rw [if_pos c2, if_pos (Or.inr c2)]
      · have e2 : wrap64 ((j : Int) - 1) = ((j - 1 : Nat) : Int) := by rw [w64 _ (by omega) (by omega)]; omega
        have q1 := hless (j - 1) (by omega)
        have q2 := hr (j - 1) (by omega)
        have q3 := hr j hj
        have hne : wrap64 ((rd_T59 hs (j : Int)).f0 - (rd_T59 hs ((j - 1 : Nat) : Int)).f0) ≠ 0 := by
          rw [w64 _ (by omega) (by omega)]
          omega
        rw [if_neg c2, if_neg (show ¬ ((j : Int) = 0 ∨ (rd_T59 hs (j : Int)).f0 = a) by simp only [not_or]; exact ⟨c, c2⟩), Int.toNat_natCast, e2, if_pos (by omega), if_pos (by omega)]
        have := implInter_l0 (rd_T59 hs ((j - 1 : Nat) : Int)).f0 (rd_T59 hs (j : Int)).f0 a (rd_T59 hs ((j - 1 : Nat) : Int)).f1 (rd_T59 hs (j : Int)).f1 (by rw [hl _ hj, hl _ (by omega)]) (by rw [hl _ (by omega)]; omega) hne [] (rd_T59 hs ((j - 1 : Nat) : Int)).f1.length k 0 [] (by omega) (by rw [hl _ (by omega)]; omega) rfl
        simpa using this

end Go.Proofs.Ytgfpbiaocokdeaa.P
/- The tops of the classes at a ring, as the reference reckons them. -/
namespace Go.Proofs.Ytgfpbiaocokdeaa.P
open Go.RowKit Go.Proofs.Ytgfpbiaocokdeaa.P Go.Proofs.YtgfpbiaocokdeaaW.PrintWords Go.Proofs.YtgfpbiaocokdeaaW.PrintLast Go.Proofs.YtgfpbiaocokdeaaW.PrintMore
set_option linter.unusedVariables false
set_option linter.unusedSimpArgs false
theorem own_is (l : List Int) (hb : l.length ≤ 1048576) : spec_l00Own.f l = some l := by
  unfold spec_l00Own.f
  rw [bind_some_, if_pos (by simp; omega)]
  simp
theorem specInter_l2 (ds : List Int) (hs : List S59) (a : Int) (i j : Nat) (hi : i < hs.length) (hj : j < hs.length) (hl : (rd_T59 hs (j : Int)).f1.length = (rd_T59 hs (i : Int)).f1.length) (hb : (rd_T59 hs (i : Int)).f1.length ≤ 1048576) (hne : wrap64 ((rd_T59 hs (j : Int)).f0 - (rd_T59 hs (i : Int)).f0) ≠ 0) :
    ∀ (d k c : Nat) (acc : List Int), c + d = (rd_T59 hs (i : Int)).f1.length → d < k → acc.length = c → spec_l06At.l2 k a i j acc c ds hs = some (acc ++ inter (rd_T59 hs (i : Int)).f0 (rd_T59 hs (j : Int)).f0 a (rd_T59 hs (i : Int)).f1 (rd_T59 hs (j : Int)).f1 d c) := by
  intro d
  induction d with
  | zero =>
    intro k c acc hc hk ha
    obtain ⟨k, rfl⟩ : ∃ m, k = m + 1 := ⟨k - 1, by omega⟩
    simp only [spec_l06At.l2, inter]
    rw [if_pos (by omega), if_pos (by omega), if_neg (by omega), List.append_nil]
  | succ d ih =>
    intro k c acc hc hk ha
    obtain ⟨k, rfl⟩ : ∃ m, k = m + 1 := ⟨k - 1, by omega⟩
    have hz := ih k (c + 1) (acc ++ [interV (rd_T59 hs (i : Int)).f0 (rd_T59 hs (j : Int)).f0 a (rd (rd_T59 hs (i : Int)).f1 (c : Int)) (rd (rd_T59 hs (j : Int)).f1 (c : Int))]) (by omega) (by omega) (by simp; omega)
    have e : ∀ u : Int, spec_l01Floor.f u (wrap64 ((rd_T59 hs (j : Int)).f0 - (rd_T59 hs (i : Int)).f0)) = some (floorV u (wrap64 ((rd_T59 hs (j : Int)).f0 - (rd_T59 hs (i : Int)).f0))) := by
      intro u
      unfold spec_l01Floor.f floorV
      rw [if_neg hne]
      split <;> rfl
    simp only [spec_l06At.l2, inter]
    rw [if_pos (show (0 : Int) ≤ (i : Int) by omega), if_pos (show (i : Int) < (hs.length : Int) by omega), if_pos (by omega), if_pos (show (0 : Int) ≤ (c : Int) by omega), if_pos (show (0 : Int) ≤ (j : Int) by omega), if_pos (show (j : Int) < (hs.length : Int) by omega), if_pos (by omega), e, bind_some_, if_pos (by omega), w64s c (by omega)]
    unfold interV at hz
    rw [hz]
    simp [interV]
theorem specAt_j3 (ds : List Int) (hs : List S59) (a : Int) (i j : Nat) (hi : i < hs.length) (hj : j < hs.length) (hl : (rd_T59 hs (j : Int)).f1.length = (rd_T59 hs (i : Int)).f1.length) (hb : (rd_T59 hs (i : Int)).f1.length ≤ 1048576) (hr : (0 ≤ (rd_T59 hs (i : Int)).f0 ∧ (rd_T59 hs (i : Int)).f0 ≤ 60) ∧ (0 ≤ (rd_T59 hs (j : Int)).f0 ∧ (rd_T59 hs (j : Int)).f0 ≤ 60)) (k : Nat) (hk : 1048580 < k) :
    spec_l06At.j3 k a i j ds hs = some (if (rd_T59 hs (i : Int)).f0 > a ∨ (rd_T59 hs (i : Int)).f0 ≥ (rd_T59 hs (j : Int)).f0 then (rd_T59 hs (i : Int)).f1 else inter (rd_T59 hs (i : Int)).f0 (rd_T59 hs (j : Int)).f0 a (rd_T59 hs (i : Int)).f1 (rd_T59 hs (j : Int)).f1 (rd_T59 hs (i : Int)).f1.length 0) := by
  obtain ⟨k, rfl⟩ : ∃ m, k = m + 1 + 1 := ⟨k - 2, by omega⟩
  simp only [spec_l06At.j3, spec_l06At.j4]
  rw [if_pos (show (0 : Int) ≤ (i : Int) by omega), if_pos (show (i : Int) < (hs.length : Int) by omega), if_pos (show (0 : Int) ≤ (j : Int) by omega), if_pos (show (j : Int) < (hs.length : Int) by omega), own_is _ hb, bind_some_]
  by_cases c1 : (rd_T59 hs (i : Int)).f0 > a
  · rw [if_pos c1, if_pos (Or.inl c1)]
    simp
    exact hi
  · rw [if_neg c1]
    by_cases c2 : (rd_T59 hs (i : Int)).f0 ≥ (rd_T59 hs (j : Int)).f0
    · rw [if_pos (decide_eq_true c2), if_pos (Or.inr c2), if_pos (by omega), if_pos (by omega)]
    · have hne : wrap64 ((rd_T59 hs (j : Int)).f0 - (rd_T59 hs (i : Int)).f0) ≠ 0 := by
        rw [w64 _ (by omega) (by omega)]
        omega
      rw [if_neg (by simpa using c2), if_neg (by simp only [not_or]; exact ⟨c1, c2⟩)]
      have := specInter_l2 ds hs a i j hi hj hl hb hne (rd_T59 hs (i : Int)).f1.length k 0 [] (by omega) (by omega) rfl
      simpa using this
theorem specAt_l1 (ds : List Int) (hs : List S59) (a : Int) (i : Nat) (b : Nat) (hbl : b < hs.length) (hlen : hs.length ≤ 1048576) (out : Option (List Int))
    (hlow : 0 < b → (rd_T59 hs ((b - 1 : Nat) : Int)).f0 < a) (hup : ∀ m : Nat, b ≤ m → m + 1 < hs.length → a ≤ (rd_T59 hs (m : Int)).f0) (B : Nat)
    (hcont : ∀ k, B ≤ k → spec_l06At.j3 k a i b ds hs = out) : ∀ (d k : Nat), b + d < hs.length → B + d < k → spec_l06At.l1 k a i ((b + d : Nat) : Int) ds hs = out := by
  intro d
  induction d with
  | zero =>
    intro k hd hk
    obtain ⟨k, rfl⟩ : ∃ m, k = m + 1 := ⟨k - 1, by omega⟩
    simp only [spec_l06At.l1, Nat.add_zero]
    by_cases h : b = 0
    · subst h
      rw [if_neg (by omega)]
      exact hcont k (by omega)
    · have e : wrap64 ((b : Int) - 1) = ((b - 1 : Nat) : Int) := by rw [w64 _ (by omega) (by omega)]; omega
      have := hlow (by omega)
      rw [if_pos (show (b : Int) > 0 by omega), e, if_pos (show (0 : Int) ≤ ((b - 1 : Nat) : Int) by omega), if_pos (show ((b - 1 : Nat) : Int) < (hs.length : Int) by omega), if_neg (by omega)]
      exact hcont k (by omega)
  | succ d ih =>
    intro k hd hk
    obtain ⟨k, rfl⟩ : ∃ m, k = m + 1 := ⟨k - 1, by omega⟩
    have e : wrap64 (((b + (d + 1) : Nat) : Int) - 1) = ((b + d : Nat) : Int) := by rw [w64 _ (by omega) (by omega)]; omega
    have := hup (b + d) (by omega) (by omega)
    simp only [spec_l06At.l1]
    rw [if_pos (show ((b + (d + 1) : Nat) : Int) > 0 by omega), e, if_pos (show (0 : Int) ≤ ((b + d : Nat) : Int) by omega), if_pos (show ((b + d : Nat) : Int) < (hs.length : Int) by omega), if_pos (by omega)]
    exact ih k (by omega) (by omega)
theorem specAt_l0 (ds : List Int) (hs : List S59) (a : Int) (e : Nat) (hel : e < hs.length) (hlen : hs.length ≤ 1048576) (out : Option (List Int))
    (hin : ∀ m : Nat, 1 ≤ m → m ≤ e → (rd_T59 hs (m : Int)).f0 ≤ a) (hout : e + 1 < hs.length → a < (rd_T59 hs ((e + 1 : Nat) : Int)).f0) (B : Nat)
    (hcont : ∀ k, B ≤ k → spec_l06At.j1 k a e ds hs = out) : ∀ (d k i : Nat), i + d = e → B + d < k → spec_l06At.l0 k a i ds hs = out := by
  intro d
  induction d with
  | zero =>
    intro k i hi hk
    obtain ⟨k, rfl⟩ : ∃ m, k = m + 1 := ⟨k - 1, by omega⟩
    have hie : i = e := by omega
    subst hie
    simp only [spec_l06At.l0]
    rw [w64s i (by omega)]
    by_cases h : ((i + 1 : Nat) : Int) < (hs.length : Int)
    · have := hout (by omega)
      rw [if_pos h, if_pos (by omega), if_neg (by omega)]
      exact hcont k (by omega)
    · rw [if_neg h]
      exact hcont k (by omega)
  | succ d ih =>
    intro k i hi hk
    obtain ⟨k, rfl⟩ : ∃ m, k = m + 1 := ⟨k - 1, by omega⟩
    have := hin (i + 1) (by omega) (by omega)
    simp only [spec_l06At.l0]
    rw [w64s i (by omega), if_pos (by omega), if_pos (by omega), if_pos (by omega)]
    exact ih k (i + 1) (by omega) (by omega)
theorem specAt_is (k : Nat) (ds : List Int) (hs : List S59) (a : Int) (h : grOk ds hs = true) (hk : 3000000 < k) : spec_l06At.f k ds hs a = some (topsAt hs a) := by
  obtain ⟨h1, h2, h3, h4⟩ := grOk_in h
  have hl : ∀ i : Nat, i < hs.length → (rd_T59 hs (i : Int)).f1.length = ds.length := fun i hi => by
    have := (holeOk_in (h4 i hi)).2.1
    omega
  have hr : ∀ i : Nat, i < hs.length → 0 ≤ (rd_T59 hs (i : Int)).f0 ∧ (rd_T59 hs (i : Int)).f0 ≤ 60 := fun i hi => (holeOk_in (h4 i hi)).1
  have hlt : ∀ i j : Nat, i < j → j < hs.length → (rd_T59 hs (i : Int)).f0 < (rd_T59 hs (j : Int)).f0 := fun i j hij hj => by
    have := rise_lt h4 i (j - i - 1) (by omega)
    rwa [show i + (j - i - 1) + 1 = j by omega] at this
  have hj3 := fun (i j : Nat) (hi : i < hs.length) (hj : j < hs.length) (k : Nat) (hk : 1048580 < k) => specAt_j3 ds hs a i j hi hj (by rw [hl i hi, hl j hj]) (by rw [hl i hi]; omega) ⟨hr i hi, hr j hj⟩ k hk
  have hj1 : ∀ (i b : Nat), i < hs.length → b < hs.length → (0 < b → (rd_T59 hs ((b - 1 : Nat) : Int)).f0 < a) → (∀ m : Nat, b ≤ m → m + 1 < hs.length → a ≤ (rd_T59 hs (m : Int)).f0) → ∀ k, 2000000 ≤ k → spec_l06At.j1 k a i ds hs = some (if (rd_T59 hs (i : Int)).f0 > a ∨ (rd_T59 hs (i : Int)).f0 ≥ (rd_T59 hs (b : Int)).f0 then (rd_T59 hs (i : Int)).f1 else inter (rd_T59 hs (i : Int)).f0 (rd_T59 hs (b : Int)).f0 a (rd_T59 hs (i : Int)).f1 (rd_T59 hs (b : Int)).f1 (rd_T59 hs (i : Int)).f1.length 0) := by
    intro i b hi hb hlow hup k hk
    obtain ⟨k, rfl⟩ : ∃ m, k = m + 1 := ⟨k - 1, by omega⟩
    have e : wrap64 ((hs.length : Int) - 1) = ((b + (hs.length - 1 - b) : Nat) : Int) := by rw [w64 _ (by omega) (by omega)]; omega
    simp only [spec_l06At.j1]
    rw [e]
    exact specAt_l1 ds hs a i b hb (by omega) _ hlow hup 1100000 (fun k2 hk2 => hj3 i b hi hb k2 (by omega)) (hs.length - 1 - b) k (by omega) (by omega)
  unfold spec_l06At.f topsAt
  rcases holeIx_is a hs with ⟨e, hall⟩ | ⟨j, hj, e, hge, hless⟩
  · rw [e, if_pos (by omega)]
    have hlast := hall (hs.length - 1) (by omega)
    have hz := specAt_l0 ds hs a (hs.length - 1) (by omega) (by omega) _ (fun m _ hm => by have := hall m (by omega); omega) (fun hq => by omega) 2000000 (fun k2 hk2 => hj1 (hs.length - 1) (hs.length - 1) (by omega) (by omega) (fun hq => hall (hs.length - 1 - 1) (by omega)) (fun m hm1 hm2 => by omega) k2 hk2) (hs.length - 1) k 0 (by omega) (by omega)
    rw [show ((0 : Nat) : Int) = 0 from rfl] at hz
    rw [hz, if_pos (Or.inr (Int.le_refl _))]
  · rw [e, if_neg (by omega)]
    by_cases c : j = 0
    · subst c
      rw [if_pos (show ((0 : Nat) : Int) = 0 ∨ (rd_T59 hs ((0 : Nat) : Int)).f0 = a from Or.inl rfl)]
      have hz := specAt_l0 ds hs a 0 (by omega) (by omega) _ (fun m hm1 hm2 => by omega) (fun hq => by have := hlt 0 (0 + 1) (by omega) hq; omega) 2000000 (fun k2 hk2 => hj1 0 0 (by omega) (by omega) (fun hq => by omega) (fun m hm1 hm2 => by
        rcases Nat.eq_zero_or_pos m with q | q
        · rw [q]; exact hge
        · have := hlt 0 m q (by omega); omega) k2 hk2) 0 k 0 (by omega) (by omega)
      rw [show ((0 : Nat) : Int) = 0 from rfl] at hz ⊢
      rw [hz, if_pos (Or.inr (Int.le_refl _))]
    · by_cases c2 : (rd_T59 hs (j : Int)).f0 = a
      · rw [if_pos (Or.inr c2)]
        have hz := specAt_l0 ds hs a j hj (by omega) _ (fun m hm1 hm2 => by
          rcases Nat.lt_or_ge m j with q | q
          · have := hless m q; omega
          · rw [show m = j by omega]; omega) (fun hq => by have := hlt j (j + 1) (by omega) hq; omega) 2000000 (fun k2 hk2 => hj1 j j hj hj (fun hq => hless (j - 1) (by omega)) (fun m hm1 hm2 => by
          rcases Nat.eq_or_lt_of_le hm1 with q | q
          · rw [← q]; exact hge
          · have := hlt j m q (by omega); omega) k2 hk2) j k 0 (by omega) (by omega)
        rw [show ((0 : Nat) : Int) = 0 from rfl] at hz
        rw [hz, if_pos (Or.inr (Int.le_refl _))]
      · rw [if_neg (by simp only [not_or]; exact ⟨by omega, c2⟩), Int.toNat_natCast]
        have q1 := hless (j - 1) (by omega)
        have q2 := hlt (j - 1) j (by omega) hj
        have hz := specAt_l0 ds hs a (j - 1) (by omega) (by omega) _ (fun m hm1 hm2 => by have := hless m (by omega); omega) (fun hq => by rw [show j - 1 + 1 = j by omega]; omega) 2000000 (fun k2 hk2 => hj1 (j - 1) j (by omega) hj (fun hq => hless (j - 1) (by omega)) (fun m hm1 hm2 => by
          rcases Nat.eq_or_lt_of_le hm1 with q | q
          · rw [← q]; exact hge
          · have := hlt j m q (by omega); omega) k2 hk2) (j - 1) k 0 (by omega) (by omega)
        rw [show ((0 : Nat) : Int) = 0 from rfl] at hz
        rw [hz, if_neg (by omega)]

end Go.Proofs.Ytgfpbiaocokdeaa.P
/- The classes and the faces of a ground, as both sides reckon them. -/
namespace Go.Proofs.Ytgfpbiaocokdeaa.P
open Go.RowKit Go.Proofs.Ytgfpbiaocokdeaa.P Go.Proofs.YtgfpbiaocokdeaaW.PrintWords Go.Proofs.YtgfpbiaocokdeaaW.PrintLast Go.Proofs.YtgfpbiaocokdeaaW.PrintMore
set_option linter.unusedVariables false
set_option linter.unusedSimpArgs false
def classGo (t : List Int) (h : Int) : Nat → Nat → Int → Int
  | 0, _, c => c
  | d + 1, i, c => classGo t h d (i + 1) (if rd t (i : Int) > h then (i : Int) else c)
def classOf (t : List Int) (h : Int) : Int := classGo t h t.length 0 (-1)
theorem classGo_in (t : List Int) (h : Int) : ∀ (d i : Nat) (c : Int), -1 ≤ c → c < ((i + d : Nat) : Int) → -1 ≤ classGo t h d i c ∧ classGo t h d i c < ((i + d : Nat) : Int)
  | 0, i, c, h1, h2 => ⟨h1, h2⟩
  | d + 1, i, c, h1, h2 => by
    simp only [classGo]
    have := classGo_in t h d (i + 1) (if rd t (i : Int) > h then (i : Int) else c) (by split <;> omega) (by split <;> omega)
    omega
theorem classOf_in (t : List Int) (h : Int) : -1 ≤ classOf t h ∧ (classOf t h < (t.length : Int) ∨ classOf t h = -1) := by
  rcases Nat.eq_zero_or_pos t.length with e | e
  · unfold classOf
    rw [e]
    exact ⟨Int.le_refl _, Or.inr rfl⟩
  · have := classGo_in t h t.length 0 (-1) (Int.le_refl _) (by omega)
    unfold classOf
    exact ⟨this.1, Or.inl (by omega)⟩
theorem implClass_l0 (t : List Int) (h : Int) (hb : t.length ≤ 1048576) : ∀ (d k i : Nat) (c : Int), i + d = t.length → d < k → impl_Ground_class.l0 k h c t t.length i = some (classGo t h d i c) := by
  intro d
  induction d with
  | zero =>
    intro k i c hi hk
    obtain ⟨k, rfl⟩ : ∃ m, k = m + 1 := ⟨k - 1, by omega⟩
    simp only [impl_Ground_class.l0, classGo]
    rw [if_neg (by omega)]
  | succ d ih =>
    intro k i c hi hk
    obtain ⟨k, rfl⟩ : ∃ m, k = m + 1 := ⟨k - 1, by omega⟩
    simp only [impl_Ground_class.l0, classGo]
    rw [if_pos (by omega), if_pos (by omega), if_pos (by omega), w64s i (by omega)]
    by_cases q : rd t (i : Int) > h
    · rw [if_pos q, if_pos q]
      exact ih k (i + 1) _ (by omega) (by omega)
    · rw [if_neg q, if_neg q]
      exact ih k (i + 1) _ (by omega) (by omega)
theorem specClass_l0 (t : List Int) (h : Int) (hb : t.length ≤ 1048576) : ∀ (d k i : Nat) (c : Int), i + d = t.length → d < k → spec_l06Class.l0 k t h c i = some (classGo t h d i c) := by
  intro d
  induction d with
  | zero =>
    intro k i c hi hk
    obtain ⟨k, rfl⟩ : ∃ m, k = m + 1 := ⟨k - 1, by omega⟩
    simp only [spec_l06Class.l0, classGo]
    rw [if_neg (by omega)]
  | succ d ih =>
    intro k i c hi hk
    obtain ⟨k, rfl⟩ : ∃ m, k = m + 1 := ⟨k - 1, by omega⟩
    simp only [spec_l06Class.l0, classGo]
    rw [if_pos (by omega), if_pos (by omega), w64s i (by omega)]
    by_cases q : rd t (i : Int) > h
    · rw [if_pos q, if_pos q]
      exact ih k (i + 1) _ (by omega) (by omega)
    · rw [if_neg q, if_neg q]
      exact ih k (i + 1) _ (by omega) (by omega)
theorem specClass_is (k : Nat) (t : List Int) (h : Int) (hb : t.length ≤ 1048576) (hk : t.length < k) : spec_l06Class.f k t h = some (classOf t h) := by
  unfold spec_l06Class.f classOf
  exact specClass_l0 t h hb t.length k 0 (-1) (by omega) hk
theorem implClass_is (k : Nat) (ds : List Int) (hs : List S59) (a h : Int) (hg : grOk ds hs = true) (hk : 3000000 < k) : impl_Ground_class.f k ds hs a h = some (classOf (topsAt hs a) h) := by
  have hl := topsAt_len hg a
  have hin := (grOk_in hg).1
  unfold impl_Ground_class.f classOf
  rw [implAt_is k ds hs a hg hk, bind_some_]
  exact implClass_l0 _ h (by omega) _ k 0 (-1) (by omega) (by omega)
def areas : List Int := [52, 90, 111, 122, 125, 125, 122, 111, 90, 52]
def stripH (h : Int) (i : Nat) : Int := wrap64 (h + wrap64 (300 * wrap64 (wrap64 (2 * (i : Int)) - 9)))
def stripC (t : List Int) (h : Int) (i : Nat) : Nat := if classOf t (stripH h i) < 0 then t.length else (classOf t (stripH h i)).toNat
def faceGo (t : List Int) (h : Int) : Nat → Nat → List Int → List Int
  | 0, _, o => o
  | d + 1, i, o => faceGo t h d (i + 1) (o.set (stripC t h i) (wrap64 (rd o (stripC t h i : Int) + rd areas (i : Int))))
def faceOf (t : List Int) (h : Int) : List Int := faceGo t h 10 0 (List.replicate (t.length + 1) 0)
theorem faceGo_len (t : List Int) (h : Int) : ∀ (d i : Nat) (o : List Int), (faceGo t h d i o).length = o.length
  | 0, _, _ => rfl
  | d + 1, i, o => by
    simp only [faceGo]
    rw [faceGo_len t h d (i + 1), List.length_set]
theorem faceOf_len (t : List Int) (h : Int) : (faceOf t h).length = t.length + 1 := by
  unfold faceOf
  rw [faceGo_len, List.length_replicate]
theorem implFace_l0 (ds : List Int) (hs : List S59) (a h : Int) (hg : grOk ds hs = true) : ∀ (d k i : Nat) (o : List Int), i + d = 10 → d + 3000000 < k → o.length = ds.length + 1 → impl_Ground_face.l0 k a h o areas areas.length i ds hs = some (faceGo (topsAt hs a) h d i o) := by
  intro d
  have hl := topsAt_len hg a
  have hin := (grOk_in hg).1
  have h10 : (areas.length : Int) = 10 := rfl
  induction d with
  | zero =>
    intro k i o hi hk ho
    obtain ⟨k, rfl⟩ : ∃ m, k = m + 1 := ⟨k - 1, by omega⟩
    simp only [impl_Ground_face.l0, faceGo]
    rw [if_neg (by omega)]
  | succ d ih =>
    intro k i o hi hk ho
    obtain ⟨k, rfl⟩ : ∃ m, k = m + 1 := ⟨k - 1, by omega⟩
    have hc := classOf_in (topsAt hs a) (stripH h i)
    have hz := ih k (i + 1) (o.set (stripC (topsAt hs a) h i) (wrap64 (rd o (stripC (topsAt hs a) h i : Int) + rd areas (i : Int)))) (by omega) (by omega) (by rw [List.length_set]; exact ho)
    have ec := implClass_is k ds hs a (stripH h i) hg (by omega)
    unfold stripH at ec hc
    simp only [impl_Ground_face.l0, faceGo]
    rw [if_pos (by omega), if_pos (by omega), if_pos (by omega), ec, bind_some_, w64s i (by omega)]
    by_cases q : classOf (topsAt hs a) (wrap64 (h + wrap64 (300 * wrap64 (wrap64 (2 * (i : Int)) - 9)))) < 0
    · have es : stripC (topsAt hs a) h i = ds.length := by unfold stripC stripH; rw [if_pos q, hl]
      rw [if_pos q, if_pos (by omega), if_pos (by omega), Int.toNat_natCast, ← hz, es]
    · have es : ((stripC (topsAt hs a) h i : Nat) : Int) = classOf (topsAt hs a) (wrap64 (h + wrap64 (300 * wrap64 (wrap64 (2 * (i : Int)) - 9)))) := by unfold stripC stripH; rw [if_neg q]; omega
      rw [if_neg q, if_pos (by omega), if_pos (by omega), ← hz, ← es, Int.toNat_natCast]
theorem implFace_is (k : Nat) (ds : List Int) (hs : List S59) (a h : Int) (hg : grOk ds hs = true) (hk : 4000000 < k) : impl_Ground_face.f k ds hs a h = some (faceOf (topsAt hs a) h) := by
  have hl := topsAt_len hg a
  have hin := (grOk_in hg).1
  have e : wrap64 ((ds.length : Int) + 1) = ((ds.length + 1 : Nat) : Int) := w64s _ (by omega)
  unfold impl_Ground_face.f faceOf
  rw [e, if_pos (by omega), Int.toNat_natCast, if_pos (by omega), bind_some_, hl]
  exact implFace_l0 ds hs a h hg 10 k 0 _ (by omega) (by omega) (by rw [List.length_replicate])
theorem specFace_l0 (t : List Int) (h : Int) (hb : t.length ≤ 1048576) : ∀ (d k i : Nat) (o : List Int), i + d = 10 → d + 3000000 < k → o.length = t.length + 1 → spec_l06Face.l0 k h areas t o i = some (faceGo t h d i o) := by
  intro d
  have h10 : (areas.length : Int) = 10 := rfl
  induction d with
  | zero =>
    intro k i o hi hk ho
    obtain ⟨k, rfl⟩ : ∃ m, k = m + 1 := ⟨k - 1, by omega⟩
    simp only [spec_l06Face.l0, faceGo]
    rw [if_neg (by omega)]
  | succ d ih =>
    intro k i o hi hk ho
    obtain ⟨k, rfl⟩ : ∃ m, k = m + 1 := ⟨k - 1, by omega⟩
    have hc := classOf_in t (stripH h i)
    have hz := ih k (i + 1) (o.set (stripC t h i) (wrap64 (rd o (stripC t h i : Int) + rd areas (i : Int)))) (by omega) (by omega) (by rw [List.length_set]; exact ho)
    have ec := specClass_is k t (stripH h i) hb (by omega)
    unfold stripH at ec hc
    simp only [spec_l06Face.l0, faceGo]
    rw [if_pos (by omega), ec, bind_some_, w64s i (by omega)]
    by_cases q : classOf t (wrap64 (h + wrap64 (300 * wrap64 (wrap64 (2 * (i : Int)) - 9)))) < 0
    · have es : stripC t h i = t.length := by unfold stripC stripH; rw [if_pos q]
      rw [if_pos q, if_pos (by omega), if_pos (by omega), if_pos (by omega), if_pos (by omega), Int.toNat_natCast, ← hz, es]
    · have es : ((stripC t h i : Nat) : Int) = classOf t (wrap64 (h + wrap64 (300 * wrap64 (wrap64 (2 * (i : Int)) - 9)))) := by unfold stripC stripH; rw [if_neg q]; omega
      rw [if_neg q, if_pos (by omega), if_pos (by omega), if_pos (by omega), if_pos (by omega), ← hz, ← es, Int.toNat_natCast]
theorem specFace_is (k : Nat) (ds : List Int) (hs : List S59) (a h : Int) (hg : grOk ds hs = true) (hk : 4000000 < k) : spec_l06Face.f k ds hs a h = some (faceOf (topsAt hs a) h) := by
  have hl := topsAt_len hg a
  have hin := (grOk_in hg).1
  have e : wrap64 (((topsAt hs a).length : Int) + 1) = (((topsAt hs a).length + 1 : Nat) : Int) := w64s _ (by omega)
  unfold spec_l06Face.f faceOf
  rw [specAt_is k ds hs a hg (by omega), bind_some_, e, if_pos (by omega), Int.toNat_natCast, if_pos (by omega)]
  exact specFace_l0 _ h (by omega) 10 k 0 _ (by omega) (by omega) (by rw [List.length_replicate])

end Go.Proofs.Ytgfpbiaocokdeaa.P
/- A number lies in a range, as the program asks it. -/
namespace Go.Proofs.Ytgfpbiaocokdeaa.P
open Go.RowKit Go.Proofs.Ytgfpbiaocokdeaa.P Go.Proofs.YtgfpbiaocokdeaaW.PrintWords Go.Proofs.YtgfpbiaocokdeaaW.PrintLast Go.Proofs.YtgfpbiaocokdeaaW.PrintMore
set_option linter.unusedVariables false
set_option linter.unusedSimpArgs false
theorem within_is (a b c : Int) : impl_within.f a b c = some (decide (b ≤ a ∧ a ≤ c)) := by
  unfold impl_within.f
  by_cases h : b ≤ a <;> simp [h]

end Go.Proofs.Ytgfpbiaocokdeaa.P
/- What the program asks of a ground. -/
namespace Go.Proofs.Ytgfpbiaocokdeaa.P
open Go.RowKit Go.Proofs.Ytgfpbiaocokdeaa.P Go.Proofs.YtgfpbiaocokdeaaW.PrintWords Go.Proofs.YtgfpbiaocokdeaaW.PrintLast Go.Proofs.YtgfpbiaocokdeaaW.PrintMore
set_option linter.unusedVariables false
set_option linter.unusedSimpArgs false
theorem implHole_l0 (l : List Int) (a : Int) (hb : l.length ≤ 1048576) : ∀ (d k i : Nat), i + d = l.length → 1 ≤ i → d < k → impl_isHole.l0 k l.length i a l = some (upTo (dnOk l) d i) := by
  intro d
  induction d with
  | zero =>
    intro k i hi h1 hk
    obtain ⟨k, rfl⟩ : ∃ m, k = m + 1 := ⟨k - 1, by omega⟩
    simp only [impl_isHole.l0]
    rw [if_neg (by omega)]
    rfl
  | succ d ih =>
    intro k i hi h1 hk
    obtain ⟨k, rfl⟩ : ∃ m, k = m + 1 := ⟨k - 1, by omega⟩
    have e : wrap64 ((i : Int) - 1) = ((i - 1 : Nat) : Int) := by rw [w64 _ (by omega) (by omega)]; omega
    simp only [impl_isHole.l0]
    rw [if_pos (by omega), if_pos (by omega), if_pos (by omega), e, if_pos (by omega), if_pos (by omega), w64s i (by omega), ih k (i + 1) (by omega) (by omega) (by omega)]
    simp only [upTo, dnOk]
    rw [decide_eq_false (show ¬ i = 0 by omega), Bool.false_or]
    by_cases c : rd l (i : Int) > rd l ((i - 1 : Nat) : Int)
    · rw [if_pos c, decide_eq_false (show ¬ rd l (i : Int) ≤ rd l ((i - 1 : Nat) : Int) by omega)]
      rfl
    · rw [if_neg c, decide_eq_true (show rd l (i : Int) ≤ rd l ((i - 1 : Nat) : Int) by omega)]
      rfl
theorem implHole_is (k : Nat) (r n : Int) (l : List Int) (hb : l.length ≤ 1048576) (hk : l.length + 3 < k) : impl_isHole.f k r l n = some (decide (0 ≤ r ∧ r ≤ 60) && topsOk n l) := by
  obtain ⟨k, rfl⟩ : ∃ m, k = m + 1 := ⟨k - 1, by omega⟩
  unfold impl_isHole.f topsOk impl_areWithin.f
  rw [within_is, bind_some_, bind_some_]
  simp only [impl_isHole.j0]
  by_cases h1 : 0 ≤ r ∧ r ≤ 60
  · rw [if_pos (decide_eq_true h1), decide_eq_true h1]
    by_cases h2 : (l.length : Int) = n
    · rw [if_pos h2, decide_eq_true h2]
      cases h3 : impl_areWithin.all (-100000) 100000 l with
      | true =>
        rw [if_neg (by simp)]
        subst h2
        rcases Nat.eq_zero_or_pos l.length with h0 | h0
        · obtain ⟨k, rfl⟩ : ∃ m, k = m + 1 := ⟨k - 1, by omega⟩
          simp only [impl_isHole.l0]
          rw [if_neg (by omega), h0]
          rfl
        · have h4 := implHole_l0 l r hb (l.length - 1) k 1 (by omega) (by omega) (by omega)
          have h5 : upTo (dnOk l) l.length 0 = upTo (dnOk l) (l.length - 1) 1 := by
            obtain ⟨m, hm⟩ : ∃ m, l.length = m + 1 := ⟨l.length - 1, by omega⟩
            rw [hm]
            simp [upTo, dnOk]
          rw [h5]
          simp only [Bool.true_and]
          exact h4
      | false => simp
    · rw [if_neg h2, decide_eq_false h2]
      simp
  · rw [if_neg (by simpa using h1), decide_eq_false h1]
    simp
theorem implGround_l0 (ds : List Int) (hs : List S59) (hp : shortH hs) : ∀ (d k i : Nat), i + d = hs.length → d + 1048580 < k → impl_ValidGround.l0 k hs hs.length i ds hs = some (upTo (holeOk ds.length hs) d i) := by
  intro d
  have hb := hp.1
  induction d with
  | zero =>
    intro k i hi hk
    obtain ⟨k, rfl⟩ : ∃ m, k = m + 1 := ⟨k - 1, by omega⟩
    simp only [impl_ValidGround.l0]
    rw [if_neg (by omega)]
    rfl
  | succ d ih =>
    intro k i hi hk
    obtain ⟨k, rfl⟩ : ∃ m, k = m + 1 := ⟨k - 1, by omega⟩
    have h1 := shortH_at hp i (by omega)
    have hz := ih k (i + 1) (by omega) (by omega)
    simp only [impl_ValidGround.l0]
    rw [if_pos (by omega), if_pos (by omega), if_pos (by omega), implHole_is k _ _ _ h1 (by omega), bind_some_, w64s i (by omega), hz]
    simp only [upTo, holeOk]
    by_cases h : i = 0
    · rw [if_neg (show ¬ (i : Int) > 0 by omega), decide_eq_true h, ite_tt]
      simp [Bool.and_assoc]
    · have e : wrap64 ((i : Int) - 1) = ((i - 1 : Nat) : Int) := by rw [w64 _ (by omega) (by omega)]; omega
      rw [if_pos (show (i : Int) > 0 by omega), e, if_pos (show (0 : Int) ≤ ((i - 1 : Nat) : Int) by omega), if_pos (show ((i - 1 : Nat) : Int) < (hs.length : Int) by omega), ite_ff, not_ge_dec, ite_tt, decide_eq_false h, Bool.false_or]
      simp only [Bool.and_assoc]
theorem implGround_is (k : Nat) (ds : List Int) (hs : List S59) (hp : shortH hs) (hk : 3000000 < k) : impl_ValidGround.f k ds hs = some (grOk ds hs) := by
  have hb := hp.1
  obtain ⟨k, rfl⟩ : ∃ m, k = m + 1 := ⟨k - 1, by omega⟩
  have h0 := implGround_l0 ds hs hp hs.length k 0 (by omega) (by omega)
  unfold impl_ValidGround.f grOk impl_areWithin.f
  rw [within_is, bind_some_, bind_some_, within_is, bind_some_]
  simp only [impl_ValidGround.j0]
  rw [show ((0 : Nat) : Int) = 0 from rfl] at h0
  rw [h0]
  generalize upTo (holeOk (ds.length : Int) hs) hs.length 0 = b1
  generalize impl_areWithin.all 1 3000 ds = b2
  generalize decide (1 ≤ (ds.length : Int) ∧ (ds.length : Int) ≤ 4) = b3
  generalize decide (1 ≤ (hs.length : Int) ∧ (hs.length : Int) ≤ 6) = b4
  cases b1 <;> cases b2 <;> cases b3 <;> cases b4 <;> rfl

end Go.Proofs.Ytgfpbiaocokdeaa.P
/- A number lies in a range, as the reference asks it. -/
namespace Go.Proofs.Ytgfpbiaocokdeaa.P
open Go.RowKit Go.Proofs.Ytgfpbiaocokdeaa.P Go.Proofs.YtgfpbiaocokdeaaW.PrintWords Go.Proofs.YtgfpbiaocokdeaaW.PrintLast Go.Proofs.YtgfpbiaocokdeaaW.PrintMore
set_option linter.unusedVariables false
set_option linter.unusedSimpArgs false
theorem in_is (a b c : Int) : spec_l00In.f a b c = some (decide (b ≤ a ∧ a ≤ c)) := by
  unfold spec_l00In.f
  by_cases h : b ≤ a <;> simp [h]

end Go.Proofs.Ytgfpbiaocokdeaa.P
/- What the reference asks of a ground. -/
namespace Go.Proofs.Ytgfpbiaocokdeaa.P
open Go.RowKit Go.Proofs.Ytgfpbiaocokdeaa.P Go.Proofs.YtgfpbiaocokdeaaW.PrintWords Go.Proofs.YtgfpbiaocokdeaaW.PrintLast Go.Proofs.YtgfpbiaocokdeaaW.PrintMore
set_option linter.unusedVariables false
set_option linter.unusedSimpArgs false
theorem specTops_l0 (l : List Int) (n : Int) (hb : l.length ≤ 1048576) : ∀ (d k i : Nat), i + d = l.length → d < k → spec_l06Tops.l0 k l n i = some (upTo (fun j => decide (-100000 ≤ rd l (j : Int) ∧ rd l (j : Int) ≤ 100000) && dnOk l j) d i && decide ((l.length : Int) = n)) := by
  intro d
  induction d with
  | zero =>
    intro k i hi hk
    obtain ⟨k, rfl⟩ : ∃ m, k = m + 1 := ⟨k - 1, by omega⟩
    simp only [spec_l06Tops.l0]
    rw [if_neg (by omega)]
    by_cases h : (l.length : Int) = n <;> simp [upTo, h]
  | succ d ih =>
    intro k i hi hk
    obtain ⟨k, rfl⟩ : ∃ m, k = m + 1 := ⟨k - 1, by omega⟩
    have hz := ih k (i + 1) (by omega) (by omega)
    simp only [spec_l06Tops.l0, in_is, bind_some_]
    rw [if_pos (by omega), if_pos (by omega), w64s i (by omega), hz]
    simp only [upTo, dnOk]
    by_cases h : i = 0
    · rw [if_neg (show ¬ (i : Int) > 0 by omega), decide_eq_true h, ite_tt]
      simp [Bool.and_assoc]
    · have e : wrap64 ((i : Int) - 1) = ((i - 1 : Nat) : Int) := by rw [w64 _ (by omega) (by omega)]; omega
      have e2 : (!decide (rd l ((i - 1 : Nat) : Int) < rd l (i : Int))) = decide (rd l (i : Int) ≤ rd l ((i - 1 : Nat) : Int)) := by
        by_cases c : rd l ((i - 1 : Nat) : Int) < rd l (i : Int)
        · rw [decide_eq_true c, decide_eq_false (show ¬ rd l (i : Int) ≤ rd l ((i - 1 : Nat) : Int) by omega)]
          rfl
        · rw [decide_eq_false c, decide_eq_true (show rd l (i : Int) ≤ rd l ((i - 1 : Nat) : Int) by omega)]
          rfl
      rw [if_pos (show (i : Int) > 0 by omega), e, if_pos (show (0 : Int) ≤ ((i - 1 : Nat) : Int) by omega), if_pos (show ((i - 1 : Nat) : Int) < (l.length : Int) by omega), ite_ff, e2, ite_tt, decide_eq_false h, Bool.false_or]
      simp only [Bool.and_assoc]
theorem specTops_is (k : Nat) (l : List Int) (n : Int) (hb : l.length ≤ 1048576) (hk : l.length < k) : spec_l06Tops.f k l n = some (topsOk n l) := by
  unfold spec_l06Tops.f topsOk
  have h := specTops_l0 l n hb l.length k 0 (by omega) hk
  rw [show ((0 : Nat) : Int) = 0 from rfl] at h
  rw [h, upTo_and, all_upTo]
  congr 1
  ac_rfl
theorem specGround_l1 (ds : List Int) (hs : List S59) (hp : shortH hs) : ∀ (d k i : Nat), i + d = hs.length → d + 1048580 < k → spec_l06Is.l1 k i ds hs = some (upTo (holeOk ds.length hs) d i) := by
  intro d
  have hb := hp.1
  induction d with
  | zero =>
    intro k i hi hk
    obtain ⟨k, rfl⟩ : ∃ m, k = m + 1 := ⟨k - 1, by omega⟩
    simp only [spec_l06Is.l1]
    rw [if_neg (by omega)]
    rfl
  | succ d ih =>
    intro k i hi hk
    obtain ⟨k, rfl⟩ : ∃ m, k = m + 1 := ⟨k - 1, by omega⟩
    have h1 := shortH_at hp i (by omega)
    have hz := ih k (i + 1) (by omega) (by omega)
    simp only [spec_l06Is.l1, in_is, bind_some_]
    rw [if_pos (by omega), if_pos (by omega), specTops_is k _ _ h1 (by omega), bind_some_, w64s i (by omega), hz, ite_tt]
    simp only [upTo, holeOk]
    by_cases h : i = 0
    · rw [if_neg (show ¬ (i : Int) > 0 by omega), decide_eq_true h, ite_tt]
      simp [Bool.and_assoc]
    · have e : wrap64 ((i : Int) - 1) = ((i - 1 : Nat) : Int) := by rw [w64 _ (by omega) (by omega)]; omega
      rw [if_pos (show (i : Int) > 0 by omega), e, if_pos (show (0 : Int) ≤ ((i - 1 : Nat) : Int) by omega), if_pos (show ((i - 1 : Nat) : Int) < (hs.length : Int) by omega), ite_ff, not_ge_dec, ite_tt, decide_eq_false h, Bool.false_or]
      congr 1
      ac_rfl
theorem specGround_l0 (ds : List Int) (hs : List S59) (hp : shortH hs) (hd : ds.length ≤ 1048576) : ∀ (d k i : Nat), i + d = ds.length → d + 2200000 < k → spec_l06Is.l0 k i ds hs = some (upTo (fun j => decide (1 ≤ rd ds (j : Int) ∧ rd ds (j : Int) ≤ 3000)) d i && upTo (holeOk ds.length hs) hs.length 0) := by
  intro d
  have hb := hp.1
  induction d with
  | zero =>
    intro k i hi hk
    obtain ⟨k, rfl⟩ : ∃ m, k = m + 1 := ⟨k - 1, by omega⟩
    have h1 := specGround_l1 ds hs hp hs.length k 0 (by omega) (by omega)
    simp only [spec_l06Is.l0]
    rw [if_neg (by omega)]
    simpa [upTo] using h1
  | succ d ih =>
    intro k i hi hk
    obtain ⟨k, rfl⟩ : ∃ m, k = m + 1 := ⟨k - 1, by omega⟩
    have hz := ih k (i + 1) (by omega) (by omega)
    simp only [spec_l06Is.l0, in_is, bind_some_]
    rw [if_pos (by omega), if_pos (by omega), w64s i (by omega), hz, ite_tt]
    simp only [upTo, Bool.and_assoc]
theorem specGround_is (k : Nat) (ds : List Int) (hs : List S59) (hd : ds.length ≤ 1048576) (hp : shortH hs) (hk : 5000000 < k) : spec_l06Is.f k ds hs = some (grOk ds hs) := by
  have hb := hp.1
  obtain ⟨k, rfl⟩ : ∃ m, k = m + 1 := ⟨k - 1, by omega⟩
  have h0 := specGround_l0 ds hs hp hd ds.length k 0 (by omega) (by omega)
  unfold spec_l06Is.f grOk
  rw [in_is, bind_some_, in_is, bind_some_, all_upTo]
  simp only [spec_l06Is.j0]
  rw [show ((0 : Nat) : Int) = 0 from rfl] at h0
  rw [h0]
  generalize upTo (holeOk (ds.length : Int) hs) hs.length 0 = b1
  generalize upTo (fun j => decide (1 ≤ rd ds (j : Int) ∧ rd ds (j : Int) ≤ 3000)) ds.length 0 = b2
  generalize decide (1 ≤ (ds.length : Int) ∧ (ds.length : Int) ≤ 4) = b3
  generalize decide (1 ≤ (hs.length : Int) ∧ (hs.length : Int) ≤ 6) = b4
  cases b1 <;> cases b2 <;> cases b3 <;> cases b4 <;> rfl

end Go.Proofs.Ytgfpbiaocokdeaa.P
namespace Go.Proofs.Ytgfpbiaocokdeaa.P
open Go.RowKit Go.Proofs.YtgfpbiaocokdeaaW.PrintWords Go.Proofs.YtgfpbiaocokdeaaW.PrintLast Go.Proofs.YtgfpbiaocokdeaaW.PrintMore
attribute [local go_sem] max2_int min2_int max_two min_two max_three min_three max_four min_four   -- for this text's walks alone

end Go.Proofs.Ytgfpbiaocokdeaa.P
namespace Go.Proofs.Ytgfpbiaocokdeaa.P
open Go.RowKit Go.Proofs.YtgfpbiaocokdeaaW.PrintWords Go.Proofs.YtgfpbiaocokdeaaW.PrintLast Go.Proofs.YtgfpbiaocokdeaaW.PrintMore
attribute [local go_sem] max2_int min2_int max_two min_two max_three min_three max_four min_four   -- for this text's walks alone

end Go.Proofs.Ytgfpbiaocokdeaa.P
namespace Go.Proofs.Ytgfpbiaocokdeaa.P
open Go.RowKit Go.Proofs.YtgfpbiaocokdeaaW.PrintWords Go.Proofs.YtgfpbiaocokdeaaW.PrintLast Go.Proofs.YtgfpbiaocokdeaaW.PrintMore
attribute [local go_sem] max2_int min2_int max_two min_two max_three min_three max_four min_four   -- for this text's walks alone

end Go.Proofs.Ytgfpbiaocokdeaa.P
namespace Go.Proofs.Ytgfpbiaocokdeaa.P
open Go.RowKit Go.Proofs.YtgfpbiaocokdeaaW.PrintWords Go.Proofs.YtgfpbiaocokdeaaW.PrintLast Go.Proofs.YtgfpbiaocokdeaaW.PrintMore
attribute [local go_sem] max2_int min2_int max_two min_two max_three min_three max_four min_four   -- for this text's walks alone

end Go.Proofs.Ytgfpbiaocokdeaa.P
/- The face and the weight of a ring, as both sides answer. -/
namespace Go.Proofs.Ytgfpbiaocokdeaa.P
open Go.RowKit Go.Proofs.Ytgfpbiaocokdeaa.P Go.Proofs.YtgfpbiaocokdeaaW.PrintWords Go.Proofs.YtgfpbiaocokdeaaW.PrintLast Go.Proofs.YtgfpbiaocokdeaaW.PrintMore
set_option linter.unusedVariables false
set_option linter.unusedSimpArgs false
theorem ite_some_ {α : Type} (b : Bool) (x y : α) : (if b = true then some x else some y) = some (if b = true then x else y) := by cases b <;> rfl
def placeOk (r h : Int) : Bool := decide (0 ≤ r ∧ r ≤ 60) && decide (-100000 ≤ h ∧ h ≤ 100000)
def faceP (ds : List Int) (hs : List S59) (r h : Int) : List Int × Bool := if (grOk ds hs && placeOk r h) = true then (faceOf (topsAt hs r) h, true) else ([], false)
theorem implPlace_is (r h : Int) : impl_isPlace.f r h = some (placeOk r h) := by
  unfold impl_isPlace.f placeOk
  rw [within_is, bind_some_, within_is, bind_some_]
  by_cases c : 0 ≤ r ∧ r ≤ 60
  · rw [if_pos (decide_eq_true c), decide_eq_true c, Bool.true_and]
  · rw [if_neg (by simpa using c), decide_eq_false c, Bool.false_and]
theorem specRing_is (r : Int) : spec_l06Ring.f r = some (decide (0 ≤ r ∧ r ≤ 60)) := by
  unfold spec_l06Ring.f
  rw [in_is, bind_some_]
theorem specHeight_is (h : Int) : spec_l06Height.f h = some (decide (-100000 ≤ h ∧ h ≤ 100000)) := by
  unfold spec_l06Height.f
  rw [in_is, bind_some_]
theorem implFaceOf_is (k : Nat) (ds : List Int) (hs : List S59) (r h : Int) (hp : shortH hs) (hk : 5000000 < k) : impl_FaceOf.f k ds hs r h = some (faceP ds hs r h) := by
  unfold impl_FaceOf.f faceP
  rw [implGround_is k ds hs hp (by omega), bind_some_, implPlace_is, bind_some_]
  by_cases c : grOk ds hs = true
  · rw [if_pos c, c, Bool.true_and, implFace_is k ds hs r h c (by omega), bind_some_]
    exact ite_some_ _ _ _
  · rw [if_neg c, if_neg (by simp [c])]
theorem specFaceOf_is (k : Nat) (ds : List Int) (hs : List S59) (r h : Int) (hd : ds.length ≤ 1048576) (hp : shortH hs) (hk : 6000000 < k) : spec_FaceOf.f k ds hs r h = some (faceP ds hs r h) := by
  unfold spec_FaceOf.f faceP placeOk
  rw [specGround_is k ds hs hd hp (by omega), bind_some_, specRing_is, bind_some_, specHeight_is, bind_some_]
  by_cases c : grOk ds hs = true
  · rw [if_pos c, c, Bool.true_and, specFace_is k ds hs r h c (by omega), bind_some_]
    by_cases c2 : 0 ≤ r ∧ r ≤ 60
    · rw [if_pos (decide_eq_true c2), decide_eq_true c2, Bool.true_and]
      exact ite_some_ _ _ _
    · rw [if_neg (by simpa using c2), decide_eq_false c2, if_neg (by simp)]
  · rw [if_neg c, if_neg (by simp [c])]
end Go.Proofs.Ytgfpbiaocokdeaa.P
/- A list that was marked still holds its marks. -/
namespace Go.Proofs.Ytgfpbiaocokdeaa.P
open Go.RowKit Go.Proofs.Ytgfpbiaocokdeaa.P Go.Proofs.YtgfpbiaocokdeaaW.PrintWords Go.Proofs.YtgfpbiaocokdeaaW.PrintLast Go.Proofs.YtgfpbiaocokdeaaW.PrintMore
set_option linter.unusedVariables false
set_option linter.unusedSimpArgs false
theorem heldInt_loop (n : Nat) (hb : n ≤ 4000000000000000000) (m : Int) (hm : 0 ≤ m ∧ m ≤ 4000000000000000000) : ∀ (d k i : Nat), i + d = n → d < k → laws_heldInt64S.l0 k (iota m n) (m + i) i = some (m + n) := by
  intro d
  induction d with
  | zero =>
    intro k i hi hk
    obtain ⟨k, rfl⟩ : ∃ m, k = m + 1 := ⟨k - 1, by omega⟩
    simp only [laws_heldInt64S.l0]
    rw [if_neg (by rw [iota_length]; omega), show i = n by omega]
  | succ d ih =>
    intro k i hi hk
    obtain ⟨k, rfl⟩ : ∃ m, k = m + 1 := ⟨k - 1, by omega⟩
    simp only [laws_heldInt64S.l0]
    have hr : rd (iota m n) i = m + i := by rw [rd_at _ i (by rw [iota_length]; omega), iota_get]
    rw [if_pos (by rw [iota_length]; omega), if_pos (by omega), if_pos hr, w64s i (by omega), w64 (m + i + 1) (by omega) (by omega), show m + (i : Int) + 1 = m + ((i + 1 : Nat) : Int) by omega]
    exact ih k (i + 1) (by omega) (by omega)
theorem heldInt_is (k : Nat) (n : Nat) (m : Int) (hm : 0 ≤ m ∧ m ≤ 4000000000000000000) (hb : n ≤ 4000000000000000000) (hk : n < k) : laws_heldInt64S.f k (iota m n) m = some (m + n) := by
  unfold laws_heldInt64S.f
  have := heldInt_loop n hb m hm n k 0 (by omega) hk
  simpa using this

end Go.Proofs.Ytgfpbiaocokdeaa.P
/- A list is marked with rising numbers, and still holds them. -/
namespace Go.Proofs.Ytgfpbiaocokdeaa.P
open Go.RowKit Go.Proofs.Ytgfpbiaocokdeaa.P Go.Proofs.YtgfpbiaocokdeaaW.PrintWords Go.Proofs.YtgfpbiaocokdeaaW.PrintLast Go.Proofs.YtgfpbiaocokdeaaW.PrintMore
set_option linter.unusedVariables false
set_option linter.unusedSimpArgs false
theorem markInt_loop (n : Nat) (hb : n ≤ 4000000000000000000) (m : Int) (hm : 0 ≤ m ∧ m ≤ 4000000000000000000) : ∀ (d k i : Nat) (l : List Int), i + d = n → d < k → l.length = n → l.take i = (iota m n).take i → laws_markInt64S.l0 k l (m + i) i = some (m + n, iota m n) := by
  intro d
  induction d with
  | zero =>
    intro k i l hi hk hl ht
    obtain ⟨k, rfl⟩ : ∃ m, k = m + 1 := ⟨k - 1, by omega⟩
    simp only [laws_markInt64S.l0]
    rw [if_neg (by omega)]
    rw [List.take_of_length_le (by omega), List.take_of_length_le (by rw [iota_length]; omega)] at ht
    rw [ht, show i = n by omega]
  | succ d ih =>
    intro k i l hi hk hl ht
    obtain ⟨k, rfl⟩ : ∃ m, k = m + 1 := ⟨k - 1, by omega⟩
    simp only [laws_markInt64S.l0]
    rw [if_pos (by omega), if_pos (by omega), w64s i (by omega), Int.toNat_natCast, w64 (m + i + 1) (by omega) (by omega), show m + (i : Int) + 1 = m + ((i + 1 : Nat) : Int) by omega]
    exact ih k (i + 1) _ (by omega) (by omega) (by rw [List.length_set]; exact hl) (fill_step (iota m n) l i _ (by rw [iota_length]; omega) (by rw [iota_length]; exact hl) ht (iota_get m n i (by rw [iota_length]; omega)))
theorem markInt_is (k : Nat) (l : List Int) (m : Int) (hm : 0 ≤ m ∧ m ≤ 4000000000000000000) (hb : l.length ≤ 4000000000000000000) (hk : l.length < k) : laws_markInt64S.f k l m = some (m + l.length, iota m l.length) := by
  unfold laws_markInt64S.f
  have := markInt_loop l.length hb m hm l.length k 0 l (by omega) hk rfl (by simp)
  simpa using this

end Go.Proofs.Ytgfpbiaocokdeaa.P
/- Holes are marked with rising numbers. -/
namespace Go.Proofs.Ytgfpbiaocokdeaa.P
open Go.RowKit Go.Proofs.Ytgfpbiaocokdeaa.P Go.Proofs.YtgfpbiaocokdeaaW.PrintWords Go.Proofs.YtgfpbiaocokdeaaW.PrintLast Go.Proofs.YtgfpbiaocokdeaaW.PrintMore
set_option linter.unusedVariables false
set_option linter.unusedSimpArgs false
def iotaHole : Int → List S59 → List S59
  | _, [] => []
  | m, r :: rs => ⟨m, iota (m + 1) r.f1.length⟩ :: iotaHole (m + 1 + r.f1.length) rs
def cntHole : List S59 → Nat
  | [] => 0
  | r :: rs => 1 + r.f1.length + cntHole rs
theorem cntHole_le : ∀ rs : List S59, (∀ s ∈ rs, s.f1.length ≤ 1048576) → cntHole rs ≤ 1048577 * rs.length
  | [], _ => by simp [cntHole]
  | r :: rs, h => by
    have h1 := h r (by simp)
    have h2 := cntHole_le rs (fun s hs => h s (by simp [hs]))
    simp only [cntHole, List.length_cons]
    omega
theorem markHole_loop : ∀ (todo : List S59) (k : Nat) (pre : List S59) (m : Int), (pre.length + todo.length : Int) ≤ 4000000000000000000 → (∀ s ∈ todo, s.f1.length ≤ 1048576) → 1048577 + todo.length < k → 0 ≤ m → m + cntHole todo ≤ 3000000000000000000 → laws_markHoleS.l0 k (pre ++ todo) m pre.length = some (m + cntHole todo, pre ++ iotaHole m todo) := by
  intro todo
  induction todo with
  | nil =>
    intro k pre m h1 hr h2 h3 h4
    obtain ⟨k, rfl⟩ : ∃ m, k = m + 1 := ⟨k - 1, by omega⟩
    simp only [laws_markHoleS.l0]
    rw [if_neg (by simp)]
    simp [cntHole, iotaHole]
  | cons r rs ih =>
    intro k pre m h1 hr h2 h3 h4
    obtain ⟨k, rfl⟩ : ∃ m, k = m + 1 := ⟨k - 1, by omega⟩
    have hl := hr r (by simp)
    simp only [cntHole, List.length_cons] at h1 h2 h4
    have e1 : rd_T59 (pre ++ r :: rs) (pre.length : Int) = r := by
      unfold rd_T59
      rw [Int.toNat_natCast, List.getD_eq_getElem?_getD, List.getElem?_append_right (Nat.le_refl _), Nat.sub_self]
      rfl
    have e2 : ∀ v : S59, (pre ++ r :: rs).set ((pre.length : Int)).toNat v = (pre ++ [v]) ++ rs := by
      intro v
      rw [Int.toNat_natCast, List.set_append_right _ _ (Nat.le_refl _), Nat.sub_self]
      simp
    have e3 : pre.length + 1 = (pre ++ [(⟨m, iota (m + 1) r.f1.length⟩ : S59)]).length := by simp
    simp only [laws_markHoleS.l0]
    rw [if_pos (by simp; omega), if_pos (by omega), e1, w64 (m + 1) (by omega) (by omega), markInt_is k r.f1 (m + 1) (by omega) (by omega) (by omega), bind_some_, e2, w64s pre.length (by omega), e3, ih k _ (m + 1 + r.f1.length) (by simp; omega) (fun s hs => hr s (by simp [hs])) (by omega) (by omega) (by omega)]
    simp only [cntHole, iotaHole, List.append_assoc, List.singleton_append, Int.natCast_add, Int.add_assoc]
    rfl
theorem markHole_is (k : Nat) (rs : List S59) (m : Int) (hp : shortH rs) (hm : 0 ≤ m ∧ m ≤ 1000000000) (hk : 3000000 < k) : laws_markHoleS.f k rs m = some (m + (cntHole rs : Int), iotaHole m rs) := by
  have h1 := hp.1
  have h2 := cntHole_le rs hp.2
  have h3 : 1048577 * rs.length ≤ 1048577 * 1048576 := Nat.mul_le_mul (Nat.le_refl _) h1
  have e1 := markHole_loop rs k [] m (by simp; omega) hp.2 (by omega) (by omega) (by omega)
  exact e1

end Go.Proofs.Ytgfpbiaocokdeaa.P
/- A ground is copied, measured, marked, and equal to itself. -/
namespace Go.Proofs.Ytgfpbiaocokdeaa.P
open Go.RowKit Go.Proofs.Ytgfpbiaocokdeaa.P Go.Proofs.YtgfpbiaocokdeaaW.PrintWords Go.Proofs.YtgfpbiaocokdeaaW.PrintLast Go.Proofs.YtgfpbiaocokdeaaW.PrintMore
set_option linter.unusedVariables false
set_option linter.unusedSimpArgs false
theorem toGround_is (k : Nat) (ds : List Int) (hs : List S55) (hd : ds.length ≤ 1048576) (hb : hs.length ≤ 1048576) (hw : ∀ s ∈ hs, s.f1.length ≤ 1048576) (hk : 3000000 < k) : laws_toGround.f k ds hs = some (ds, hs.map toHole) := by
  unfold laws_toGround.f
  rw [toInt_is k ds (by omega) (by omega), bind_some_, toHoleS_is k hs hb hw (by omega), bind_some_]
theorem eqGround_refl (k : Nat) (ds : List Int) (hs : List S59) (hd : ds.length ≤ 1048576) (hp : shortH hs) (hk : 3000000 < k) : laws_eqGround.f k ds hs ds hs = some true := by
  have := hp.1
  unfold laws_eqGround.f
  rw [eqInt_is k ds ds (by omega) (by omega), bind_some_, if_pos (decide_eq_true rfl), eqHoleS_refl k hs hp (by omega), bind_some_, if_pos rfl]
theorem szGround_is (k : Nat) (ds : List Int) (hs : List S55) (hd : ds.length ≤ 9223372036854775807) (hb : hs.length ≤ 9223372036854775807) (hw : ∀ s ∈ hs, s.f1.length ≤ 9223372036854775807) (hk : 3000000 < k) : ∃ r, laws_szGround.f k ds hs 1048576 = some r ∧ r ≤ 1048576 ∧ (r < 0 ∨ (ds.length ≤ 1048576 ∧ hs.length ≤ 1048576 ∧ ∀ s ∈ hs, s.f1.length ≤ 1048576)) := by
  unfold laws_szGround.f laws_szInt64S.f
  rw [w64 (1048576 - (ds.length : Int)) (by omega) (by omega)]
  by_cases h1 : 1048576 - (ds.length : Int) < 0
  · rw [if_pos h1, bind_some_, if_pos (by omega)]
    exact ⟨_, rfl, by omega, Or.inl (by omega)⟩
  · obtain ⟨r, hr, hs2⟩ := szHoleS_is k hs (1048576 - (ds.length : Int)) hb hw (by omega) (by omega) (by omega)
    rw [if_neg h1, bind_some_, if_neg h1, hr, bind_some_]
    by_cases h2 : r < 0
    · rw [if_pos h2]
      exact ⟨_, rfl, by omega, Or.inl (by omega)⟩
    · rw [if_neg h2]
      have h3 := hs2.resolve_left h2
      by_cases h4 : r ≤ 1048576
      · exact ⟨_, rfl, h4, Or.inr ⟨by omega, h3⟩⟩
      · exact absurd (szHoleS_le k hs _ hb hw (by omega) (by omega) (by omega) r hr) h4
theorem markGround_ok (k : Nat) (ds : List Int) (hs : List S59) (m : Int) (hm : 0 ≤ m ∧ m ≤ 100000000) (hd : ds.length ≤ 1048576) (hp : shortH hs) (hk : 3000000 < k) : ∃ b, laws_markGround.f k ds hs m = some b ∧ 0 ≤ b.1 := by
  unfold laws_markGround.f
  rw [markInt_is k ds m (by omega) (by omega) (by omega), bind_some_]
  try dsimp only
  rw [markHole_is k hs (m + ds.length) hp ⟨by omega, by omega⟩ (by omega), bind_some_]
  exact ⟨_, rfl, by dsimp only; omega⟩

end Go.Proofs.Ytgfpbiaocokdeaa.P
