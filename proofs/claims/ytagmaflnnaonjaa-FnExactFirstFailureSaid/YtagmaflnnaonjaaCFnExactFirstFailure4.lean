/- What the claim of FnExactFirstFailure bears, part 4: functions of the program as plain Lean functions, with proofs that the code comes to their answers, and lemmas on them. -/
import Derived.Test.YtagmaflnnaonjaaCFnExactFirstFailure0
import Derived.Test.YtagmaflnnaonjaaCFnExactFirstFailure1
import Derived.Test.YtagmaflnnaonjaaCFnExactFirstFailure3
import Derived.Test.YtagmaflnnaonjaaCFnExactFirstFailure2
set_option linter.unusedVariables false
set_option linter.unusedSimpArgs false
namespace Go.Proofs.Ytagmaflnnaonjaa.P
open Go.RowKit Go.Proofs.YtagmaflnnaonjaaW.PrintWords Go.Proofs.YtagmaflnnaonjaaW.PrintLast Go.Proofs.YtagmaflnnaonjaaW.PrintMore
attribute [local go_sem] max2_int min2_int max_two min_two max_three min_three max_four min_four   -- for this text's walks alone

def spec_l08Changes.l0 : Nat → List (S106) → Int → Int → Int → Option (Bool)
 | 0, _, _, _, _ => none
 | k + 1, x0, x1, x2, x7 => if x7 < (x0.length : Int) then (if 0 ≤ x7 then (if ((rd_T106 x0 x7).f0) = x2 then ((spec_l00Has.f k ((rd_T106 x0 x7).f1) x1).bind fun t543 => (if t543 = true then (some true) else (spec_l08Changes.l0 k x0 x1 x2 (wrap64 (x7 + 1))))) else (spec_l08Changes.l0 k x0 x1 x2 (wrap64 (x7 + 1)))) else (none)) else (some false)
def spec_l08Changes.f (k : Nat) (l0 : List (S106)) (a1 : Int) (a2 : Int) : Option (Bool) := spec_l08Changes.l0 k l0 a1 a2 0
set_option maxHeartbeats 8000000 in
set_option maxRecDepth 100000 in
theorem spec_l08Changes.calls (k : Nat) (A0 : Option Addr) (c0 : Nat) (l0 : List (S106)) (a1 : Int) (a2 : Int) (r : Bool) (w : World) (hr0 : Kd.C k106 w A0 l0.length l0) (hc0 : l0.length ≤ c0) (h : spec_l08Changes.f k l0 a1 a2 = some r) :
  Calls Try.prog 145 #[.slice A0 l0.length c0, .int .i64 a1, .int .i64 a2] w fun e w' => e = .returned (.bool r) ∧ Drawn0 w w' := by
 have HR0 := Aside0.mk hr0
 have HC0 := Aside0.mk hc0
 clear hr0 hc0
 have H : (spec_l08Changes.l0 k l0 a1 a2 0) = some r := h
 clear h
 have H' := Aside0.mk H
 clear H
 go_enter Try.func145, Try.ntmps145
 go_wp2
 go_loopg [7] k (fun kq v7 w' => ∃ (x7_1 : Int), v7 = .int .i64 x7_1 ∧ Aside0 (spec_l08Changes.l0 kq l0 a1 a2 x7_1 = some r) ∧ Aside0 (kq ≤ k) ∧ Drawn0 w w')
 case atStart => exact ⟨(0), (by first | rfl | (simp; done) | (simp [*]; done) | (simp [Int.tdiv_eq_ediv_of_nonneg, *]; done)), H', ⟨Nat.le_refl _⟩, by repeat (first | exact Drawn0.refl _ | apply Drawn0.step)⟩
 case round =>
  clear H'
  try clear c1
  try clear p2
  obtain ⟨x7_1, rfl, HA, HK1, ⟨m1, rfl⟩⟩ := hrel
  cases gk with
  | zero => exact absurd HA.out (by simp [spec_l08Changes.l0])
  | succ k1 =>
   have H := HA.out
   clear HA
   simp only [spec_l08Changes.l0] at H
   by_cases c4 : x7_1 < (l0.length : Int)
   ·rw [if_pos c4] at H
    have c4b0 : decide (x7_1 < (l0.length : Int)) = true := decide_eq_true c4
    clear c4
    by_cases c5 : 0 ≤ x7_1
    ·rw [if_pos c5] at H
     have c5b0 : decide (0 ≤ x7_1) = true := decide_eq_true c5
     clear c5
     by_cases c6 : ((rd_T106 l0 x7_1).f0) = a2
     ·rw [if_pos c6] at H
      have c6b0 : (((rd_T106 l0 x7_1).f0) == a2) = true := beq_iff_eq.mpr c6
      have c6b1 : (((rd_T106 l0 x7_1).f0) != a2) = false := bne_eq_false_iff_eq.mpr c6
      clear c6
      replace H := Option.bind_eq_some_iff.mp H
      obtain ⟨t543, A70, H⟩ := H
      replace H : (if t543 = true then (some true) else (spec_l08Changes.l0 k1 l0 a1 a2 (wrap64 (x7_1 + 1)))) = some r := H
      have A7 := Aside0.mk A70
      clear A70
      by_cases c8 : t543 = true
      ·subst c8
       have H1 : (some true) = some r := by rw [if_pos rfl] at H; exact H
       clear H
       have H := H1
       clear H1
       obtain rfl := Option.some.inj H
       have p541 : 0 ≤ (x7_1 : Int) := of_decide_eq_true (by assumption)
       have q541 : x7_1 < (l0.length : Int) := of_decide_eq_true (by assumption)
       obtain ⟨ad541, A541_1, c541_1, e541, hx541_0, hx541_1, hl541_1, hi541_1⟩ := at_T106 HR0.out x7_1 p541 q541
       cases e541
       have HR541_1 := Aside0.mk hi541_1
       have HC541_1 := Aside0.mk hl541_1
       clear hi541_1 hl541_1
       replace p541 := eq_true p541
       replace q541 := eq_true q541
       have p542 : 0 ≤ (x7_1 : Int) := of_decide_eq_true (by assumption)
       have q542 : x7_1 < (l0.length : Int) := of_decide_eq_true (by assumption)
       obtain ⟨ad542, A542_1, c542_1, e542, hx542_0, hx542_1, hl542_1, hi542_1⟩ := at_T106 HR0.out x7_1 p542 q542
       obtain rfl : ad541 = ad542 := (by injection e542)
       have HR542_1 := Aside0.mk hi542_1
       have HC542_1 := Aside0.mk hl542_1
       clear hi542_1 hl542_1
       replace p542 := eq_true p542
       replace q542 := eq_true q542
       have ea_ := Option.some.inj (hx541_1.symm.trans hx542_1)
       injection ea_ with ea_ en_ ec_
       subst ea_
       subst ec_
       clear en_
       go_wp2_with (first | (go_at_call 117; (with_reducible refine (spec_l00Has.calls k1 _ _ ((rd_T106 l0 x7_1).f1) a1 true _ ?side1 ?side2 A7.out).mono ?_); (case side1 => repeat (first | exact HR542_1.out | (with_reducible first | refine Kd.C_alloc ?_ _ | refine Kd.C_drewN ?_ _ | refine Kd.C_drew ?_))); (case side2 => exact HC542_1.out); rintro e w' ⟨rfl, ⟨nd, rfl⟩⟩))
       go_ret
       exact ⟨by first | rfl | (simp; done) | (simp [*]; done) | (simp [Int.tdiv_eq_ediv_of_nonneg, *]; done), by repeat (first | exact Drawn0.refl _ | apply Drawn0.step)⟩
      ·replace c8 := Bool.eq_false_iff.mpr c8
       subst c8
       have H1 : (spec_l08Changes.l0 k1 l0 a1 a2 (wrap64 (x7_1 + 1))) = some r := by rw [if_neg (show ¬ (false = true) by decide)] at H; exact H
       clear H
       have H := H1
       clear H1
       have H' := Aside0.mk H
       clear H
       have p541 : 0 ≤ (x7_1 : Int) := of_decide_eq_true (by assumption)
       have q541 : x7_1 < (l0.length : Int) := of_decide_eq_true (by assumption)
       obtain ⟨ad541, A541_1, c541_1, e541, hx541_0, hx541_1, hl541_1, hi541_1⟩ := at_T106 HR0.out x7_1 p541 q541
       cases e541
       have HR541_1 := Aside0.mk hi541_1
       have HC541_1 := Aside0.mk hl541_1
       clear hi541_1 hl541_1
       replace p541 := eq_true p541
       replace q541 := eq_true q541
       have p542 : 0 ≤ (x7_1 : Int) := of_decide_eq_true (by assumption)
       have q542 : x7_1 < (l0.length : Int) := of_decide_eq_true (by assumption)
       obtain ⟨ad542, A542_1, c542_1, e542, hx542_0, hx542_1, hl542_1, hi542_1⟩ := at_T106 HR0.out x7_1 p542 q542
       obtain rfl : ad541 = ad542 := (by injection e542)
       have HR542_1 := Aside0.mk hi542_1
       have HC542_1 := Aside0.mk hl542_1
       clear hi542_1 hl542_1
       replace p542 := eq_true p542
       replace q542 := eq_true q542
       have ea_ := Option.some.inj (hx541_1.symm.trans hx542_1)
       injection ea_ with ea_ en_ ec_
       subst ea_
       subst ec_
       clear en_
       go_wp2_with (first | (go_at_call 117; (with_reducible refine (spec_l00Has.calls k1 _ _ ((rd_T106 l0 x7_1).f1) a1 false _ ?side1 ?side2 A7.out).mono ?_); (case side1 => repeat (first | exact HR542_1.out | (with_reducible first | refine Kd.C_alloc ?_ _ | refine Kd.C_drewN ?_ _ | refine Kd.C_drew ?_))); (case side2 => exact HC542_1.out); rintro e w' ⟨rfl, ⟨nd, rfl⟩⟩))
       go_roundg k1
       case measure => have := HK1.out; omega
       case rel => exact ⟨(wrap64 (x7_1 + 1)), (by first | rfl | (simp; done) | (simp [*]; done) | (simp [Int.tdiv_eq_ediv_of_nonneg, *]; done)), H', ⟨by have := HK1.out; omega⟩, by repeat (first | exact Drawn0.refl _ | apply Drawn0.step)⟩
     ·rw [if_neg c6] at H
      have c6b0 : (((rd_T106 l0 x7_1).f0) == a2) = false := beq_eq_false_iff_ne.mpr c6
      have c6b1 : (((rd_T106 l0 x7_1).f0) != a2) = true := bne_iff_ne.mpr c6
      have H' := Aside0.mk H
      clear H
      have p541 : 0 ≤ (x7_1 : Int) := of_decide_eq_true (by assumption)
      have q541 : x7_1 < (l0.length : Int) := of_decide_eq_true (by assumption)
      obtain ⟨ad541, A541_1, c541_1, e541, hx541_0, hx541_1, hl541_1, hi541_1⟩ := at_T106 HR0.out x7_1 p541 q541
      cases e541
      have HR541_1 := Aside0.mk hi541_1
      have HC541_1 := Aside0.mk hl541_1
      clear hi541_1 hl541_1
      replace p541 := eq_true p541
      replace q541 := eq_true q541
      go_wp2
      go_roundg k1
      case measure => have := HK1.out; omega
      case rel => exact ⟨(wrap64 (x7_1 + 1)), (by first | rfl | (simp; done) | (simp [*]; done) | (simp [Int.tdiv_eq_ediv_of_nonneg, *]; done)), H', ⟨by have := HK1.out; omega⟩, by repeat (first | exact Drawn0.refl _ | apply Drawn0.step)⟩
    ·rw [if_neg c5] at H
     exact absurd H (by simp)
   ·rw [if_neg c4] at H
    have c4b0 : decide (x7_1 < (l0.length : Int)) = false := decide_eq_false c4
    clear c4
    obtain rfl := Option.some.inj H
    go_wp2
    go_ret
    exact ⟨by first | rfl | (simp; done) | (simp [*]; done) | (simp [Int.tdiv_eq_ediv_of_nonneg, *]; done), by repeat (first | exact Drawn0.refl _ | apply Drawn0.step)⟩

def spec_l08Worn.l0 : Nat → List (S106) → Int → Int → Int → Int → List (S154) → List Int → List Int → Int → Int → Option (Int)
 | 0, _, _, _, _, _, _, _, _, _, _ => none
 | k + 1, x1, x2, x3, x9, x10, x1000, x1001, x1002, x1003, x1004 => if x10 ≤ x3 then ((spec_l08Changes.f k x1 x2 x10).bind fun t544 => (if t544 = true then (if x10 < x3 then (if 0 ≤ x2 then (if x2 < (x1000.length : Int) then (if 0 ≤ x10 then (if x10 < (x1001.length : Int) then (spec_l08Worn.l0 k x1 x2 x3 (wrap64 (0 + (wrap64 (((rd_T154 x1000 x2).f0) * (rd x1001 x10))))) (wrap64 (x10 + 1)) x1000 x1001 x1002 x1003 x1004) else (none)) else (none)) else (none)) else (none)) else (spec_l08Worn.l0 k x1 x2 x3 0 (wrap64 (x10 + 1)) x1000 x1001 x1002 x1003 x1004)) else (if x10 < x3 then (if 0 ≤ x2 then (if x2 < (x1000.length : Int) then (if 0 ≤ x10 then (if x10 < (x1001.length : Int) then (spec_l08Worn.l0 k x1 x2 x3 (wrap64 (x9 + (wrap64 (((rd_T154 x1000 x2).f0) * (rd x1001 x10))))) (wrap64 (x10 + 1)) x1000 x1001 x1002 x1003 x1004) else (none)) else (none)) else (none)) else (none)) else (spec_l08Worn.l0 k x1 x2 x3 x9 (wrap64 (x10 + 1)) x1000 x1001 x1002 x1003 x1004)))) else (some x9)
def spec_l08Worn.f (k : Nat) (l0_0 : List (S154)) (l0_1 : List Int) (l0_2 : List Int) (a0_3 : Int) (a0_4 : Int) (l1 : List (S106)) (a2 : Int) (a3 : Int) : Option (Int) := spec_l08Worn.l0 k l1 a2 a3 0 0 l0_0 l0_1 l0_2 a0_3 a0_4
set_option maxHeartbeats 8000000 in
set_option maxRecDepth 100000 in
theorem spec_l08Worn.calls (k : Nat) (g0_ : Nat) (A0_0 : Option Addr) (c0_0 : Nat) (l0_0 : List (S154)) (A0_1 : Option Addr) (c0_1 : Nat) (l0_1 : List Int) (A0_2 : Option Addr) (c0_2 : Nat) (l0_2 : List Int) (a0_3 : Int) (a0_4 : Int) (A1 : Option Addr) (c1 : Nat) (l1 : List (S106)) (a2 : Int) (a3 : Int) (r : Int) (w : World) (hr0_0 : Kd.C k154 w A0_0 l0_0.length l0_0) (hc0_0 : l0_0.length ≤ c0_0) (hr0_1 : Kd.C (Kd.int .i64) w A0_1 l0_1.length l0_1) (hc0_1 : l0_1.length ≤ c0_1) (hr0_2 : Kd.C (Kd.int .i64) w A0_2 l0_2.length l0_2) (hc0_2 : l0_2.length ≤ c0_2) (hr1 : Kd.C k106 w A1 l1.length l1) (hc1 : l1.length ≤ c1) (hb0_ : w.heap[g0_]? = some (.cells #[.slice A0_0 l0_0.length c0_0, .slice A0_1 l0_1.length c0_1, .slice A0_2 l0_2.length c0_2, .int .i64 a0_3, .int .i64 a0_4] 33 (0, 0))) (h : spec_l08Worn.f k l0_0 l0_1 l0_2 a0_3 a0_4 l1 a2 a3 = some r) :
  Calls Try.prog 106 #[.pointer (some ⟨g0_, 0, none⟩), .slice A1 l1.length c1, .int .i64 a2, .int .i64 a3] w fun e w' => e = .returned (.int .i64 r) ∧ Drawn0 w w' := by
 have HR0_0 := Aside0.mk hr0_0
 have HC0_0 := Aside0.mk hc0_0
 clear hr0_0 hc0_0
 have HR0_1 := Aside0.mk hr0_1
 have HC0_1 := Aside0.mk hc0_1
 clear hr0_1 hc0_1
 have HR0_2 := Aside0.mk hr0_2
 have HC0_2 := Aside0.mk hc0_2
 clear hr0_2 hc0_2
 have HR1 := Aside0.mk hr1
 have HC1 := Aside0.mk hc1
 clear hr1 hc1
 have BK0 := Aside0.mk hb0_
 have BW0 := Aside0.mk hb0_
 clear hb0_
 have H : (spec_l08Worn.l0 k l1 a2 a3 0 0 l0_0 l0_1 l0_2 a0_3 a0_4) = some r := h
 clear h
 have H' := Aside0.mk H
 clear H
 go_enter Try.func106, Try.ntmps106
 go_wp2
 repeat (go_quiet (fail); try go_wp2)
 go_loopg [9, 10] k (fun kq v9 v10 w' => ∃ (x9_1 : Int) (x10_1 : Int), v9 = .int .i64 x9_1 ∧ v10 = .int .i64 x10_1 ∧ Aside0 (spec_l08Worn.l0 kq l1 a2 a3 x9_1 x10_1 l0_0 l0_1 l0_2 a0_3 a0_4 = some r) ∧ Aside0 (kq ≤ k) ∧ Aside0 (w'.heap[g0_]? = some (.cells #[(.slice A0_0 l0_0.length c0_0), (.slice A0_1 l0_1.length c0_1), (.slice A0_2 l0_2.length c0_2), .int .i64 a0_3, .int .i64 a0_4] 33 (0, 0))) ∧ Drawn0 w w')
 case atStart => exact ⟨(0), (0), (by first | rfl | (simp; done) | (simp [*]; done) | (simp [Int.tdiv_eq_ediv_of_nonneg, *]; done)), (by first | rfl | (simp; done) | (simp [*]; done) | (simp [Int.tdiv_eq_ediv_of_nonneg, *]; done)), H', ⟨Nat.le_refl _⟩, ⟨by (with_reducible repeat (first | refine blk_drewN ?_ _ | refine blk_drew ?_ | refine blk_alloc ?_ _)); exact BK0.out⟩, by repeat (first | exact Drawn0.refl _ | apply Drawn0.step)⟩
 case round =>
  clear H'
  try clear c1
  try clear p2
  obtain ⟨x9_1, x10_1, rfl, rfl, HA, HK1, BK0, ⟨m1, rfl⟩⟩ := hrel
  cases gk with
  | zero => exact absurd HA.out (by simp [spec_l08Worn.l0])
  | succ k1 =>
   have H := HA.out
   clear HA
   simp only [spec_l08Worn.l0] at H
   by_cases c5 : x10_1 ≤ a3
   ·rw [if_pos c5] at H
    have c5b0 : decide (x10_1 ≤ a3) = true := decide_eq_true c5
    clear c5
    replace H := Option.bind_eq_some_iff.mp H
    obtain ⟨t544, A60, H⟩ := H
    replace H : (if t544 = true then (if x10_1 < a3 then (if 0 ≤ a2 then (if a2 < (l0_0.length : Int) then (if 0 ≤ x10_1 then (if x10_1 < (l0_1.length : Int) then (spec_l08Worn.l0 k1 l1 a2 a3 (wrap64 (0 + (wrap64 (((rd_T154 l0_0 a2).f0) * (rd l0_1 x10_1))))) (wrap64 (x10_1 + 1)) l0_0 l0_1 l0_2 a0_3 a0_4) else (none)) else (none)) else (none)) else (none)) else (spec_l08Worn.l0 k1 l1 a2 a3 0 (wrap64 (x10_1 + 1)) l0_0 l0_1 l0_2 a0_3 a0_4)) else (if x10_1 < a3 then (if 0 ≤ a2 then (if a2 < (l0_0.length : Int) then (if 0 ≤ x10_1 then (if x10_1 < (l0_1.length : Int) then (spec_l08Worn.l0 k1 l1 a2 a3 (wrap64 (x9_1 + (wrap64 (((rd_T154 l0_0 a2).f0) * (rd l0_1 x10_1))))) (wrap64 (x10_1 + 1)) l0_0 l0_1 l0_2 a0_3 a0_4) else (none)) else (none)) else (none)) else (none)) else (spec_l08Worn.l0 k1 l1 a2 a3 x9_1 (wrap64 (x10_1 + 1)) l0_0 l0_1 l0_2 a0_3 a0_4))) = some r := H
    have A6 := Aside0.mk A60
    clear A60
    by_cases c7 : t544 = true
    ·subst c7
     have H1 : (if x10_1 < a3 then (if 0 ≤ a2 then (if a2 < (l0_0.length : Int) then (if 0 ≤ x10_1 then (if x10_1 < (l0_1.length : Int) then (spec_l08Worn.l0 k1 l1 a2 a3 (wrap64 (0 + (wrap64 (((rd_T154 l0_0 a2).f0) * (rd l0_1 x10_1))))) (wrap64 (x10_1 + 1)) l0_0 l0_1 l0_2 a0_3 a0_4) else (none)) else (none)) else (none)) else (none)) else (spec_l08Worn.l0 k1 l1 a2 a3 0 (wrap64 (x10_1 + 1)) l0_0 l0_1 l0_2 a0_3 a0_4)) = some r := by rw [if_pos rfl] at H; exact H
     clear H
     have H := H1
     clear H1
     by_cases c8 : x10_1 < a3
     ·rw [if_pos c8] at H
      have c8b0 : decide (x10_1 < a3) = true := decide_eq_true c8
      clear c8
      by_cases c9 : 0 ≤ a2
      ·rw [if_pos c9] at H
       have c9b0 : decide (0 ≤ a2) = true := decide_eq_true c9
       clear c9
       by_cases c10 : a2 < (l0_0.length : Int)
       ·rw [if_pos c10] at H
        have c10b0 : decide (a2 < (l0_0.length : Int)) = true := decide_eq_true c10
        clear c10
        by_cases c11 : 0 ≤ x10_1
        ·rw [if_pos c11] at H
         have c11b0 : decide (0 ≤ x10_1) = true := decide_eq_true c11
         clear c11
         by_cases c12 : x10_1 < (l0_1.length : Int)
         ·rw [if_pos c12] at H
          have c12b0 : decide (x10_1 < (l0_1.length : Int)) = true := decide_eq_true c12
          clear c12
          have H' := Aside0.mk H
          clear H
          go_wp2_with (first | (go_at_call 145; (with_reducible refine (spec_l08Changes.calls k1 _ _ l1 a2 x10_1 true _ ?side1 ?side2 A6.out).mono ?_); (case side1 => repeat (first | exact HR1.out | (with_reducible first | refine Kd.C_alloc ?_ _ | refine Kd.C_drewN ?_ _ | refine Kd.C_drew ?_))); (case side2 => exact HC1.out); rintro e w' ⟨rfl, ⟨nd, rfl⟩⟩; (try first | exact ⟨rfl, _, World.drewN_drewN _ _ _⟩ | exact ⟨rfl, _, Eq.trans (World.drewN_drewN _ _ _) (congrArg (World.drewN _) (Nat.add_assoc _ _ _))⟩); have hcz13_0 : w.cell? ⟨g0_, 0, none⟩ = some (.slice A0_0 l0_0.length c0_0) := (blk_cell BW0.out 0).trans rfl; have hcz13_1 : w.cell? ⟨g0_, 1, none⟩ = some (.slice A0_1 l0_1.length c0_1) := (blk_cell BW0.out 1).trans rfl; have hcz13_2 : w.cell? ⟨g0_, 2, none⟩ = some (.slice A0_2 l0_2.length c0_2) := (blk_cell BW0.out 2).trans rfl; have hcz13_3 : w.cell? ⟨g0_, 3, none⟩ = some (.int .i64 a0_3) := (blk_cell BW0.out 3).trans rfl; have hcz13_4 : w.cell? ⟨g0_, 4, none⟩ = some (.int .i64 a0_4) := (blk_cell BW0.out 4).trans rfl; have hfz13_0 := blk_frozen BK0.out 0; have hfz13_1 := blk_frozen BK0.out 1; have hfz13_2 := blk_frozen BK0.out 2; have hfz13_3 := blk_frozen BK0.out 3; have hfz13_4 := blk_frozen BK0.out 4; have p545 : 0 ≤ (a2 : Int) := of_decide_eq_true (by assumption); have q545 : a2 < (l0_0.length : Int) := of_decide_eq_true (by assumption); obtain ⟨ad545, e545, hx545_0, hx545_1⟩ := at_T154 HR0_0.out a2 p545 q545; cases e545; replace p545 := eq_true p545; replace q545 := eq_true q545; have p546 : 0 ≤ (x10_1 : Int) := of_decide_eq_true (by assumption); have q546 : x10_1 < (l0_1.length : Int) := of_decide_eq_true (by assumption); obtain ⟨ad546, e546, hx546_0⟩ := Kd.at_int HR0_1.out x10_1 p546 q546; cases e546; replace p546 := eq_true p546; replace q546 := eq_true q546))
          repeat (go_quiet (first | (go_at_call 145; (with_reducible refine (spec_l08Changes.calls k1 _ _ l1 a2 x10_1 true _ ?side1 ?side2 A6.out).mono ?_); (case side1 => repeat (first | exact HR1.out | (with_reducible first | refine Kd.C_alloc ?_ _ | refine Kd.C_drewN ?_ _ | refine Kd.C_drew ?_))); (case side2 => exact HC1.out); rintro e w' ⟨rfl, ⟨nd, rfl⟩⟩; (try first | exact ⟨rfl, _, World.drewN_drewN _ _ _⟩ | exact ⟨rfl, _, Eq.trans (World.drewN_drewN _ _ _) (congrArg (World.drewN _) (Nat.add_assoc _ _ _))⟩); have hcz13_0 : w.cell? ⟨g0_, 0, none⟩ = some (.slice A0_0 l0_0.length c0_0) := (blk_cell BW0.out 0).trans rfl; have hcz13_1 : w.cell? ⟨g0_, 1, none⟩ = some (.slice A0_1 l0_1.length c0_1) := (blk_cell BW0.out 1).trans rfl; have hcz13_2 : w.cell? ⟨g0_, 2, none⟩ = some (.slice A0_2 l0_2.length c0_2) := (blk_cell BW0.out 2).trans rfl; have hcz13_3 : w.cell? ⟨g0_, 3, none⟩ = some (.int .i64 a0_3) := (blk_cell BW0.out 3).trans rfl; have hcz13_4 : w.cell? ⟨g0_, 4, none⟩ = some (.int .i64 a0_4) := (blk_cell BW0.out 4).trans rfl; have hfz13_0 := blk_frozen BK0.out 0; have hfz13_1 := blk_frozen BK0.out 1; have hfz13_2 := blk_frozen BK0.out 2; have hfz13_3 := blk_frozen BK0.out 3; have hfz13_4 := blk_frozen BK0.out 4; have p545 : 0 ≤ (a2 : Int) := of_decide_eq_true (by assumption); have q545 : a2 < (l0_0.length : Int) := of_decide_eq_true (by assumption); obtain ⟨ad545, e545, hx545_0, hx545_1⟩ := at_T154 HR0_0.out a2 p545 q545; cases e545; replace p545 := eq_true p545; replace q545 := eq_true q545; have p546 : 0 ≤ (x10_1 : Int) := of_decide_eq_true (by assumption); have q546 : x10_1 < (l0_1.length : Int) := of_decide_eq_true (by assumption); obtain ⟨ad546, e546, hx546_0⟩ := Kd.at_int HR0_1.out x10_1 p546 q546; cases e546; replace p546 := eq_true p546; replace q546 := eq_true q546)); try go_wp2_with (first | (go_at_call 145; (with_reducible refine (spec_l08Changes.calls k1 _ _ l1 a2 x10_1 true _ ?side1 ?side2 A6.out).mono ?_); (case side1 => repeat (first | exact HR1.out | (with_reducible first | refine Kd.C_alloc ?_ _ | refine Kd.C_drewN ?_ _ | refine Kd.C_drew ?_))); (case side2 => exact HC1.out); rintro e w' ⟨rfl, ⟨nd, rfl⟩⟩; (try first | exact ⟨rfl, _, World.drewN_drewN _ _ _⟩ | exact ⟨rfl, _, Eq.trans (World.drewN_drewN _ _ _) (congrArg (World.drewN _) (Nat.add_assoc _ _ _))⟩); have hcz13_0 : w.cell? ⟨g0_, 0, none⟩ = some (.slice A0_0 l0_0.length c0_0) := (blk_cell BW0.out 0).trans rfl; have hcz13_1 : w.cell? ⟨g0_, 1, none⟩ = some (.slice A0_1 l0_1.length c0_1) := (blk_cell BW0.out 1).trans rfl; have hcz13_2 : w.cell? ⟨g0_, 2, none⟩ = some (.slice A0_2 l0_2.length c0_2) := (blk_cell BW0.out 2).trans rfl; have hcz13_3 : w.cell? ⟨g0_, 3, none⟩ = some (.int .i64 a0_3) := (blk_cell BW0.out 3).trans rfl; have hcz13_4 : w.cell? ⟨g0_, 4, none⟩ = some (.int .i64 a0_4) := (blk_cell BW0.out 4).trans rfl; have hfz13_0 := blk_frozen BK0.out 0; have hfz13_1 := blk_frozen BK0.out 1; have hfz13_2 := blk_frozen BK0.out 2; have hfz13_3 := blk_frozen BK0.out 3; have hfz13_4 := blk_frozen BK0.out 4; have p545 : 0 ≤ (a2 : Int) := of_decide_eq_true (by assumption); have q545 : a2 < (l0_0.length : Int) := of_decide_eq_true (by assumption); obtain ⟨ad545, e545, hx545_0, hx545_1⟩ := at_T154 HR0_0.out a2 p545 q545; cases e545; replace p545 := eq_true p545; replace q545 := eq_true q545; have p546 : 0 ≤ (x10_1 : Int) := of_decide_eq_true (by assumption); have q546 : x10_1 < (l0_1.length : Int) := of_decide_eq_true (by assumption); obtain ⟨ad546, e546, hx546_0⟩ := Kd.at_int HR0_1.out x10_1 p546 q546; cases e546; replace p546 := eq_true p546; replace q546 := eq_true q546)))
          go_roundg k1
          case measure => have := HK1.out; omega
          case rel => exact ⟨(wrap64 (0 + (wrap64 (((rd_T154 l0_0 a2).f0) * (rd l0_1 x10_1))))), (wrap64 (x10_1 + 1)), (by first | rfl | (simp; done) | (simp [*]; done) | (simp [Int.tdiv_eq_ediv_of_nonneg, *]; done)), (by first | rfl | (simp; done) | (simp [*]; done) | (simp [Int.tdiv_eq_ediv_of_nonneg, *]; done)), H', ⟨by have := HK1.out; omega⟩, ⟨by (with_reducible repeat (first | refine blk_drewN ?_ _ | refine blk_drew ?_ | refine blk_alloc ?_ _)); exact BK0.out⟩, by repeat (first | exact Drawn0.refl _ | apply Drawn0.step)⟩
         ·rw [if_neg c12] at H
          exact absurd H (by simp)
        ·rw [if_neg c11] at H
         exact absurd H (by simp)
       ·rw [if_neg c10] at H
        exact absurd H (by simp)
      ·rw [if_neg c9] at H
       exact absurd H (by simp)
     ·rw [if_neg c8] at H
      have c8b0 : decide (x10_1 < a3) = false := decide_eq_false c8
      clear c8
      have H' := Aside0.mk H
      clear H
      go_wp2_with (first | (go_at_call 145; (with_reducible refine (spec_l08Changes.calls k1 _ _ l1 a2 x10_1 true _ ?side1 ?side2 A6.out).mono ?_); (case side1 => repeat (first | exact HR1.out | (with_reducible first | refine Kd.C_alloc ?_ _ | refine Kd.C_drewN ?_ _ | refine Kd.C_drew ?_))); (case side2 => exact HC1.out); rintro e w' ⟨rfl, ⟨nd, rfl⟩⟩; (try first | exact ⟨rfl, _, World.drewN_drewN _ _ _⟩ | exact ⟨rfl, _, Eq.trans (World.drewN_drewN _ _ _) (congrArg (World.drewN _) (Nat.add_assoc _ _ _))⟩)))
      repeat (go_quiet (first | (go_at_call 145; (with_reducible refine (spec_l08Changes.calls k1 _ _ l1 a2 x10_1 true _ ?side1 ?side2 A6.out).mono ?_); (case side1 => repeat (first | exact HR1.out | (with_reducible first | refine Kd.C_alloc ?_ _ | refine Kd.C_drewN ?_ _ | refine Kd.C_drew ?_))); (case side2 => exact HC1.out); rintro e w' ⟨rfl, ⟨nd, rfl⟩⟩; (try first | exact ⟨rfl, _, World.drewN_drewN _ _ _⟩ | exact ⟨rfl, _, Eq.trans (World.drewN_drewN _ _ _) (congrArg (World.drewN _) (Nat.add_assoc _ _ _))⟩))); try go_wp2_with (first | (go_at_call 145; (with_reducible refine (spec_l08Changes.calls k1 _ _ l1 a2 x10_1 true _ ?side1 ?side2 A6.out).mono ?_); (case side1 => repeat (first | exact HR1.out | (with_reducible first | refine Kd.C_alloc ?_ _ | refine Kd.C_drewN ?_ _ | refine Kd.C_drew ?_))); (case side2 => exact HC1.out); rintro e w' ⟨rfl, ⟨nd, rfl⟩⟩; (try first | exact ⟨rfl, _, World.drewN_drewN _ _ _⟩ | exact ⟨rfl, _, Eq.trans (World.drewN_drewN _ _ _) (congrArg (World.drewN _) (Nat.add_assoc _ _ _))⟩))))
      go_roundg k1
      case measure => have := HK1.out; omega
      case rel => exact ⟨(0), (wrap64 (x10_1 + 1)), (by first | rfl | (simp; done) | (simp [*]; done) | (simp [Int.tdiv_eq_ediv_of_nonneg, *]; done)), (by first | rfl | (simp; done) | (simp [*]; done) | (simp [Int.tdiv_eq_ediv_of_nonneg, *]; done)), H', ⟨by have := HK1.out; omega⟩, ⟨by (with_reducible repeat (first | refine blk_drewN ?_ _ | refine blk_drew ?_ | refine blk_alloc ?_ _)); exact BK0.out⟩, by repeat (first | exact Drawn0.refl _ | apply Drawn0.step)⟩
    ·replace c7 := Bool.eq_false_iff.mpr c7
     subst c7
     have H1 : (if x10_1 < a3 then (if 0 ≤ a2 then (if a2 < (l0_0.length : Int) then (if 0 ≤ x10_1 then (if x10_1 < (l0_1.length : Int) then (spec_l08Worn.l0 k1 l1 a2 a3 (wrap64 (x9_1 + (wrap64 (((rd_T154 l0_0 a2).f0) * (rd l0_1 x10_1))))) (wrap64 (x10_1 + 1)) l0_0 l0_1 l0_2 a0_3 a0_4) else (none)) else (none)) else (none)) else (none)) else (spec_l08Worn.l0 k1 l1 a2 a3 x9_1 (wrap64 (x10_1 + 1)) l0_0 l0_1 l0_2 a0_3 a0_4)) = some r := by rw [if_neg (show ¬ (false = true) by decide)] at H; exact H
     clear H
     have H := H1
     clear H1
     by_cases c14 : x10_1 < a3
     ·rw [if_pos c14] at H
      have c14b0 : decide (x10_1 < a3) = true := decide_eq_true c14
      clear c14
      by_cases c15 : 0 ≤ a2
      ·rw [if_pos c15] at H
       have c15b0 : decide (0 ≤ a2) = true := decide_eq_true c15
       clear c15
       by_cases c16 : a2 < (l0_0.length : Int)
       ·rw [if_pos c16] at H
        have c16b0 : decide (a2 < (l0_0.length : Int)) = true := decide_eq_true c16
        clear c16
        by_cases c17 : 0 ≤ x10_1
        ·rw [if_pos c17] at H
         have c17b0 : decide (0 ≤ x10_1) = true := decide_eq_true c17
         clear c17
         by_cases c18 : x10_1 < (l0_1.length : Int)
         ·rw [if_pos c18] at H
          have c18b0 : decide (x10_1 < (l0_1.length : Int)) = true := decide_eq_true c18
          clear c18
          have H' := Aside0.mk H
          clear H
          go_wp2_with (first | (go_at_call 145; (with_reducible refine (spec_l08Changes.calls k1 _ _ l1 a2 x10_1 false _ ?side1 ?side2 A6.out).mono ?_); (case side1 => repeat (first | exact HR1.out | (with_reducible first | refine Kd.C_alloc ?_ _ | refine Kd.C_drewN ?_ _ | refine Kd.C_drew ?_))); (case side2 => exact HC1.out); rintro e w' ⟨rfl, ⟨nd, rfl⟩⟩; (try first | exact ⟨rfl, _, World.drewN_drewN _ _ _⟩ | exact ⟨rfl, _, Eq.trans (World.drewN_drewN _ _ _) (congrArg (World.drewN _) (Nat.add_assoc _ _ _))⟩); have hcz19_0 : w.cell? ⟨g0_, 0, none⟩ = some (.slice A0_0 l0_0.length c0_0) := (blk_cell BW0.out 0).trans rfl; have hcz19_1 : w.cell? ⟨g0_, 1, none⟩ = some (.slice A0_1 l0_1.length c0_1) := (blk_cell BW0.out 1).trans rfl; have hcz19_2 : w.cell? ⟨g0_, 2, none⟩ = some (.slice A0_2 l0_2.length c0_2) := (blk_cell BW0.out 2).trans rfl; have hcz19_3 : w.cell? ⟨g0_, 3, none⟩ = some (.int .i64 a0_3) := (blk_cell BW0.out 3).trans rfl; have hcz19_4 : w.cell? ⟨g0_, 4, none⟩ = some (.int .i64 a0_4) := (blk_cell BW0.out 4).trans rfl; have hfz19_0 := blk_frozen BK0.out 0; have hfz19_1 := blk_frozen BK0.out 1; have hfz19_2 := blk_frozen BK0.out 2; have hfz19_3 := blk_frozen BK0.out 3; have hfz19_4 := blk_frozen BK0.out 4; have p547 : 0 ≤ (a2 : Int) := of_decide_eq_true (by assumption); have q547 : a2 < (l0_0.length : Int) := of_decide_eq_true (by assumption); obtain ⟨ad547, e547, hx547_0, hx547_1⟩ := at_T154 HR0_0.out a2 p547 q547; cases e547; replace p547 := eq_true p547; replace q547 := eq_true q547; have p548 : 0 ≤ (x10_1 : Int) := of_decide_eq_true (by assumption); have q548 : x10_1 < (l0_1.length : Int) := of_decide_eq_true (by assumption); obtain ⟨ad548, e548, hx548_0⟩ := Kd.at_int HR0_1.out x10_1 p548 q548; cases e548; replace p548 := eq_true p548; replace q548 := eq_true q548))
          repeat (go_quiet (first | (go_at_call 145; (with_reducible refine (spec_l08Changes.calls k1 _ _ l1 a2 x10_1 false _ ?side1 ?side2 A6.out).mono ?_); (case side1 => repeat (first | exact HR1.out | (with_reducible first | refine Kd.C_alloc ?_ _ | refine Kd.C_drewN ?_ _ | refine Kd.C_drew ?_))); (case side2 => exact HC1.out); rintro e w' ⟨rfl, ⟨nd, rfl⟩⟩; (try first | exact ⟨rfl, _, World.drewN_drewN _ _ _⟩ | exact ⟨rfl, _, Eq.trans (World.drewN_drewN _ _ _) (congrArg (World.drewN _) (Nat.add_assoc _ _ _))⟩); have hcz19_0 : w.cell? ⟨g0_, 0, none⟩ = some (.slice A0_0 l0_0.length c0_0) := (blk_cell BW0.out 0).trans rfl; have hcz19_1 : w.cell? ⟨g0_, 1, none⟩ = some (.slice A0_1 l0_1.length c0_1) := (blk_cell BW0.out 1).trans rfl; have hcz19_2 : w.cell? ⟨g0_, 2, none⟩ = some (.slice A0_2 l0_2.length c0_2) := (blk_cell BW0.out 2).trans rfl; have hcz19_3 : w.cell? ⟨g0_, 3, none⟩ = some (.int .i64 a0_3) := (blk_cell BW0.out 3).trans rfl; have hcz19_4 : w.cell? ⟨g0_, 4, none⟩ = some (.int .i64 a0_4) := (blk_cell BW0.out 4).trans rfl; have hfz19_0 := blk_frozen BK0.out 0; have hfz19_1 := blk_frozen BK0.out 1; have hfz19_2 := blk_frozen BK0.out 2; have hfz19_3 := blk_frozen BK0.out 3; have hfz19_4 := blk_frozen BK0.out 4; have p547 : 0 ≤ (a2 : Int) := of_decide_eq_true (by assumption); have q547 : a2 < (l0_0.length : Int) := of_decide_eq_true (by assumption); obtain ⟨ad547, e547, hx547_0, hx547_1⟩ := at_T154 HR0_0.out a2 p547 q547; cases e547; replace p547 := eq_true p547; replace q547 := eq_true q547; have p548 : 0 ≤ (x10_1 : Int) := of_decide_eq_true (by assumption); have q548 : x10_1 < (l0_1.length : Int) := of_decide_eq_true (by assumption); obtain ⟨ad548, e548, hx548_0⟩ := Kd.at_int HR0_1.out x10_1 p548 q548; cases e548; replace p548 := eq_true p548; replace q548 := eq_true q548)); try go_wp2_with (first | (go_at_call 145; (with_reducible refine (spec_l08Changes.calls k1 _ _ l1 a2 x10_1 false _ ?side1 ?side2 A6.out).mono ?_); (case side1 => repeat (first | exact HR1.out | (with_reducible first | refine Kd.C_alloc ?_ _ | refine Kd.C_drewN ?_ _ | refine Kd.C_drew ?_))); (case side2 => exact HC1.out); rintro e w' ⟨rfl, ⟨nd, rfl⟩⟩; (try first | exact ⟨rfl, _, World.drewN_drewN _ _ _⟩ | exact ⟨rfl, _, Eq.trans (World.drewN_drewN _ _ _) (congrArg (World.drewN _) (Nat.add_assoc _ _ _))⟩); have hcz19_0 : w.cell? ⟨g0_, 0, none⟩ = some (.slice A0_0 l0_0.length c0_0) := (blk_cell BW0.out 0).trans rfl; have hcz19_1 : w.cell? ⟨g0_, 1, none⟩ = some (.slice A0_1 l0_1.length c0_1) := (blk_cell BW0.out 1).trans rfl; have hcz19_2 : w.cell? ⟨g0_, 2, none⟩ = some (.slice A0_2 l0_2.length c0_2) := (blk_cell BW0.out 2).trans rfl; have hcz19_3 : w.cell? ⟨g0_, 3, none⟩ = some (.int .i64 a0_3) := (blk_cell BW0.out 3).trans rfl; have hcz19_4 : w.cell? ⟨g0_, 4, none⟩ = some (.int .i64 a0_4) := (blk_cell BW0.out 4).trans rfl; have hfz19_0 := blk_frozen BK0.out 0; have hfz19_1 := blk_frozen BK0.out 1; have hfz19_2 := blk_frozen BK0.out 2; have hfz19_3 := blk_frozen BK0.out 3; have hfz19_4 := blk_frozen BK0.out 4; have p547 : 0 ≤ (a2 : Int) := of_decide_eq_true (by assumption); have q547 : a2 < (l0_0.length : Int) := of_decide_eq_true (by assumption); obtain ⟨ad547, e547, hx547_0, hx547_1⟩ := at_T154 HR0_0.out a2 p547 q547; cases e547; replace p547 := eq_true p547; replace q547 := eq_true q547; have p548 : 0 ≤ (x10_1 : Int) := of_decide_eq_true (by assumption); have q548 : x10_1 < (l0_1.length : Int) := of_decide_eq_true (by assumption); obtain ⟨ad548, e548, hx548_0⟩ := Kd.at_int HR0_1.out x10_1 p548 q548; cases e548; replace p548 := eq_true p548; replace q548 := eq_true q548)))
          go_roundg k1
          case measure => have := HK1.out; omega
          case rel => exact ⟨(wrap64 (x9_1 + (wrap64 (((rd_T154 l0_0 a2).f0) * (rd l0_1 x10_1))))), (wrap64 (x10_1 + 1)), (by first | rfl | (simp; done) | (simp [*]; done) | (simp [Int.tdiv_eq_ediv_of_nonneg, *]; done)), (by first | rfl | (simp; done) | (simp [*]; done) | (simp [Int.tdiv_eq_ediv_of_nonneg, *]; done)), H', ⟨by have := HK1.out; omega⟩, ⟨by (with_reducible repeat (first | refine blk_drewN ?_ _ | refine blk_drew ?_ | refine blk_alloc ?_ _)); exact BK0.out⟩, by repeat (first | exact Drawn0.refl _ | apply Drawn0.step)⟩
         ·rw [if_neg c18] at H
          exact absurd H (by simp)
        ·rw [if_neg c17] at H
         exact absurd H (by simp)
       ·rw [if_neg c16] at H
        exact absurd H (by simp)
      ·rw [if_neg c15] at H
       exact absurd H (by simp)
     ·rw [if_neg c14] at H
      have c14b0 : decide (x10_1 < a3) = false := decide_eq_false c14
      clear c14
      have H' := Aside0.mk H
      clear H
      go_wp2_with (first | (go_at_call 145; (with_reducible refine (spec_l08Changes.calls k1 _ _ l1 a2 x10_1 false _ ?side1 ?side2 A6.out).mono ?_); (case side1 => repeat (first | exact HR1.out | (with_reducible first | refine Kd.C_alloc ?_ _ | refine Kd.C_drewN ?_ _ | refine Kd.C_drew ?_))); (case side2 => exact HC1.out); rintro e w' ⟨rfl, ⟨nd, rfl⟩⟩; (try first | exact ⟨rfl, _, World.drewN_drewN _ _ _⟩ | exact ⟨rfl, _, Eq.trans (World.drewN_drewN _ _ _) (congrArg (World.drewN _) (Nat.add_assoc _ _ _))⟩)))
      repeat (go_quiet (first | (go_at_call 145; (with_reducible refine (spec_l08Changes.calls k1 _ _ l1 a2 x10_1 false _ ?side1 ?side2 A6.out).mono ?_); (case side1 => repeat (first | exact HR1.out | (with_reducible first | refine Kd.C_alloc ?_ _ | refine Kd.C_drewN ?_ _ | refine Kd.C_drew ?_))); (case side2 => exact HC1.out); rintro e w' ⟨rfl, ⟨nd, rfl⟩⟩; (try first | exact ⟨rfl, _, World.drewN_drewN _ _ _⟩ | exact ⟨rfl, _, Eq.trans (World.drewN_drewN _ _ _) (congrArg (World.drewN _) (Nat.add_assoc _ _ _))⟩))); try go_wp2_with (first | (go_at_call 145; (with_reducible refine (spec_l08Changes.calls k1 _ _ l1 a2 x10_1 false _ ?side1 ?side2 A6.out).mono ?_); (case side1 => repeat (first | exact HR1.out | (with_reducible first | refine Kd.C_alloc ?_ _ | refine Kd.C_drewN ?_ _ | refine Kd.C_drew ?_))); (case side2 => exact HC1.out); rintro e w' ⟨rfl, ⟨nd, rfl⟩⟩; (try first | exact ⟨rfl, _, World.drewN_drewN _ _ _⟩ | exact ⟨rfl, _, Eq.trans (World.drewN_drewN _ _ _) (congrArg (World.drewN _) (Nat.add_assoc _ _ _))⟩))))
      go_roundg k1
      case measure => have := HK1.out; omega
      case rel => exact ⟨(x9_1), (wrap64 (x10_1 + 1)), (by first | rfl | (simp; done) | (simp [*]; done) | (simp [Int.tdiv_eq_ediv_of_nonneg, *]; done)), (by first | rfl | (simp; done) | (simp [*]; done) | (simp [Int.tdiv_eq_ediv_of_nonneg, *]; done)), H', ⟨by have := HK1.out; omega⟩, ⟨by (with_reducible repeat (first | refine blk_drewN ?_ _ | refine blk_drew ?_ | refine blk_alloc ?_ _)); exact BK0.out⟩, by repeat (first | exact Drawn0.refl _ | apply Drawn0.step)⟩
   ·rw [if_neg c5] at H
    have c5b0 : decide (x10_1 ≤ a3) = false := decide_eq_false c5
    clear c5
    obtain rfl := Option.some.inj H
    go_wp2
    repeat (go_quiet (fail); try go_wp2)
    go_ret
    exact ⟨by first | rfl | (simp; done) | (simp [*]; done) | (simp [Int.tdiv_eq_ediv_of_nonneg, *]; done), by repeat (first | exact Drawn0.refl _ | apply Drawn0.step)⟩

end Go.Proofs.Ytagmaflnnaonjaa.P
namespace Go.Proofs.Ytagmaflnnaonjaa.P
open Go.RowKit Go.Proofs.YtagmaflnnaonjaaW.PrintWords Go.Proofs.YtagmaflnnaonjaaW.PrintLast Go.Proofs.YtagmaflnnaonjaaW.PrintMore
attribute [local go_sem] max2_int min2_int max_two min_two max_three min_three max_four min_four   -- for this text's walks alone

mutual
def spec_l08Failure.l0 : Nat → List (S106) → Int → List (S154) → List Int → List Int → Int → Int → Option (Int × Int × Bool)
 | 0, _, _, _, _, _, _, _ => none
 | k + 1, x1, x7, x1000, x1001, x1002, x1003, x1004 => if x7 < (x1001.length : Int) then (spec_l08Failure.l1 k x1 x7 0 x1000 x1001 x1002 x1003 x1004) else (some (0, 0, false))
def spec_l08Failure.l1 : Nat → List (S106) → Int → Int → List (S154) → List Int → List Int → Int → Int → Option (Int × Int × Bool)
 | 0, _, _, _, _, _, _, _, _ => none
 | k + 1, x1, x7, x8, x1000, x1001, x1002, x1003, x1004 => if x8 < (x1000.length : Int) then ((spec_l08Worn.f k x1000 x1001 x1002 x1003 x1004 x1 x8 x7).bind fun t549 => (if 0 ≤ x8 then (if 0 ≤ x7 then (if x7 < (x1001.length : Int) then (if (wrap64 (t549 + (wrap64 (((rd_T154 x1000 x8).f0) * (rd x1001 x7))))) > ((rd_T154 x1000 x8).f1) then (some (x8, x7, true)) else (spec_l08Failure.l1 k x1 x7 (wrap64 (x8 + 1)) x1000 x1001 x1002 x1003 x1004)) else (none)) else (none)) else (none))) else (spec_l08Failure.l0 k x1 (wrap64 (x7 + 1)) x1000 x1001 x1002 x1003 x1004)
end
def spec_l08Failure.f (k : Nat) (l0_0 : List (S154)) (l0_1 : List Int) (l0_2 : List Int) (a0_3 : Int) (a0_4 : Int) (l1 : List (S106)) : Option (Int × Int × Bool) := spec_l08Failure.l0 k l1 0 l0_0 l0_1 l0_2 a0_3 a0_4
def spec_l08Failure.T7 : Bool × List (List Nat × List Nat) := (true, [([], []), ([], []), ([], []), ([], []), ([0, 1, 2, 3], [0, 1, 2, 3]), ([], []), ([5], [5]), ([6], [6]), ([7], [7]), ([], []), ([8, 9], [8, 9]), ([10], [10]), ([11], [11]), ([], []), ([13], [13]), ([14], [14]), ([15], [15]), ([], []), ([16, 17], [16, 17]), ([18], [18]), ([12, 19], [12, 19]), ([4, 20], [4, 20]), ([], []), ([22], [22]), ([23], [23]), ([24], [24]), ([], []), ([25, 26], [25, 26]), ([27], [27]), ([28], [28]), ([21, 29], [21, 29])])
def spec_l08Failure.B7 : List Nat := [0, 0, 0, 0, 15, 0, 32, 96, 224, 0, 992, 2016, 4064, 0, 8192, 24576, 57344, 0, 253952, 516096, 1048544, 2097151, 0, 4194304, 12582912, 29360128, 0, 130023424, 264241152, 532676608, 1073741823]
theorem spec_l08Failure.tab7 : rtab .any (opsOf Try.f99 7) = spec_l08Failure.T7 := by kernel_rfl
theorem spec_l08Failure.bits7 : waitsOk spec_l08Failure.T7.2 spec_l08Failure.B7 = true := by kernel_rfl
abbrev p21_11000 : Array Bool := #[false, false, false, false, false, false, false, false, false, false, false, false, false, false, false, false, false, false, false, false, false, false, false, false, false, false, false, false, false, false, false]
abbrev p21_11001 : Array Bool := #[true, false, false, false, false, false, false, false, false, false, false, false, false, false, false, false, false, false, false, false, false, false, false, false, false, false, false, false, false, false, false]
abbrev p21_11002 : Array Bool := #[true, true, false, false, false, false, false, false, false, false, false, false, false, false, false, false, false, false, false, false, false, false, false, false, false, false, false, false, false, false, false]
abbrev p21_11003 : Array Bool := #[true, true, true, false, false, false, false, false, false, false, false, false, false, false, false, false, false, false, false, false, false, false, false, false, false, false, false, false, false, false, false]
abbrev p21_11004 : Array Bool := #[true, true, true, true, false, false, false, false, false, false, false, false, false, false, false, false, false, false, false, false, false, false, false, false, false, false, false, false, false, false, false]
abbrev p21_11005 : Array Bool := #[true, true, true, true, false, true, false, false, false, false, false, false, false, false, false, false, false, false, false, false, false, false, false, false, false, false, false, false, false, false, false]
abbrev p21_11006 : Array Bool := #[true, true, true, true, false, true, true, false, false, false, false, false, false, false, false, false, false, false, false, false, false, false, false, false, false, false, false, false, false, false, false]
abbrev p21_11007 : Array Bool := #[true, true, true, true, false, true, true, true, false, false, false, false, false, false, false, false, false, false, false, false, false, false, false, false, false, false, false, false, false, false, false]
abbrev p21_11008 : Array Bool := #[true, true, true, true, false, true, true, true, false, true, false, false, false, false, false, false, false, false, false, false, false, false, false, false, false, false, false, false, false, false, false]
abbrev p21_11009 : Array Bool := #[true, true, true, true, false, true, true, true, false, true, false, false, false, true, false, false, false, false, false, false, false, false, false, false, false, false, false, false, false, false, false]
abbrev p21_11010 : Array Bool := #[true, true, true, true, false, true, true, true, false, true, false, false, false, true, true, false, false, false, false, false, false, false, false, false, false, false, false, false, false, false, false]
abbrev p21_11011 : Array Bool := #[true, true, true, true, false, true, true, true, false, true, false, false, false, true, true, true, false, false, false, false, false, false, false, false, false, false, false, false, false, false, false]
abbrev p21_11012 : Array Bool := #[true, true, true, true, false, true, true, true, false, true, false, false, false, true, true, true, false, true, false, false, false, false, false, false, false, false, false, false, false, false, false]
abbrev p21_11013 : Array Bool := #[true, true, true, true, false, true, true, true, false, true, false, false, false, true, true, true, false, true, false, false, false, false, true, false, false, false, false, false, false, false, false]
abbrev p21_11014 : Array Bool := #[true, true, true, true, false, true, true, true, false, true, false, false, false, true, true, true, false, true, false, false, false, false, true, true, false, false, false, false, false, false, false]
abbrev p21_11015 : Array Bool := #[true, true, true, true, false, true, true, true, false, true, false, false, false, true, true, true, false, true, false, false, false, false, true, true, true, false, false, false, false, false, false]
abbrev p21_11016 : Array Bool := #[true, true, true, true, false, true, true, true, false, true, false, false, false, true, true, true, false, true, false, false, false, false, true, true, true, false, true, false, false, false, false]
abbrev p21_11017 : Array Bool := #[true, true, true, true, false, true, true, true, true, true, false, false, false, true, true, true, false, true, false, false, false, false, true, true, true, false, true, false, false, false, false]
abbrev p21_11018 : Array Bool := #[true, true, true, true, false, true, true, true, true, true, true, false, false, true, true, true, false, true, false, false, false, false, true, true, true, false, true, false, false, false, false]
abbrev p21_11019 : Array Bool := #[true, true, true, true, false, true, true, true, true, true, true, true, false, true, true, true, false, true, false, false, false, false, true, true, true, false, true, false, false, false, false]
abbrev p21_11020 : Array Bool := #[true, true, true, true, false, true, true, true, true, true, true, true, true, true, true, true, false, true, false, false, false, false, true, true, true, false, true, false, false, false, false]
abbrev p21_11021 : Array Bool := #[true, true, true, true, false, true, true, true, true, true, true, true, true, true, true, true, true, true, false, false, false, false, true, true, true, false, true, false, false, false, false]
abbrev p21_11022 : Array Bool := #[true, true, true, true, false, true, true, true, true, true, true, true, true, true, true, true, true, true, true, false, false, false, true, true, true, false, true, false, false, false, false]
abbrev p21_11023 : Array Bool := #[true, true, true, true, false, true, true, true, true, true, true, true, true, true, true, true, true, true, true, true, false, false, true, true, true, false, true, false, false, false, false]
abbrev p21_11024 : Array Bool := #[true, true, true, true, false, true, true, true, true, true, true, true, true, true, true, true, true, true, true, true, true, false, true, true, true, false, true, false, false, false, false]
abbrev p21_11025 : Array Bool := #[true, true, true, true, false, true, true, true, true, true, true, true, true, true, true, true, true, true, true, true, true, false, true, true, true, true, true, false, false, false, false]
abbrev p21_11026 : Array Bool := #[true, true, true, true, false, true, true, true, true, true, true, true, true, true, true, true, true, true, true, true, true, false, true, true, true, true, true, true, false, false, false]
abbrev p21_11027 : Array Bool := #[true, true, true, true, false, true, true, true, true, true, true, true, true, true, true, true, true, true, true, true, true, false, true, true, true, true, true, true, true, false, false]
abbrev p21_11028 : Array Bool := #[true, true, true, true, false, true, true, true, true, true, true, true, true, true, true, true, true, true, true, true, true, false, true, true, true, true, true, true, true, true, false]
abbrev p21_11029 : Array Bool := #[true, true, true, true, true, true, true, true, true, true, true, true, true, true, true, true, true, true, true, true, true, false, true, true, true, true, true, true, true, true, false]
abbrev p21_11030 : Array Bool := #[true, true, true, true, true, true, true, true, true, true, true, true, true, true, true, true, true, true, true, true, true, true, true, true, true, true, true, true, true, true, false]
abbrev p21_11031 : Array Bool := #[true, true, true, true, true, true, true, true, true, true, true, true, true, true, true, true, true, true, true, true, true, true, true, true, true, true, true, true, true, true, true]
set_option maxHeartbeats 8000000 in
set_option maxRecDepth 100000 in
theorem spec_l08Failure.calls (k : Nat) (g0_ : Nat) (A0_0 : Option Addr) (c0_0 : Nat) (l0_0 : List (S154)) (A0_1 : Option Addr) (c0_1 : Nat) (l0_1 : List Int) (A0_2 : Option Addr) (c0_2 : Nat) (l0_2 : List Int) (a0_3 : Int) (a0_4 : Int) (A1 : Option Addr) (c1 : Nat) (l1 : List (S106)) (r1 : Int) (r2 : Int) (r3 : Bool) (w : World) (hr0_0 : Kd.C k154 w A0_0 l0_0.length l0_0) (hc0_0 : l0_0.length ≤ c0_0) (hr0_1 : Kd.C (Kd.int .i64) w A0_1 l0_1.length l0_1) (hc0_1 : l0_1.length ≤ c0_1) (hr0_2 : Kd.C (Kd.int .i64) w A0_2 l0_2.length l0_2) (hc0_2 : l0_2.length ≤ c0_2) (hr1 : Kd.C k106 w A1 l1.length l1) (hc1 : l1.length ≤ c1) (hb0_ : w.heap[g0_]? = some (.cells #[.slice A0_0 l0_0.length c0_0, .slice A0_1 l0_1.length c0_1, .slice A0_2 l0_2.length c0_2, .int .i64 a0_3, .int .i64 a0_4] 33 (0, 0))) (h : spec_l08Failure.f k l0_0 l0_1 l0_2 a0_3 a0_4 l1 = some (r1, r2, r3)) :
  Calls Try.prog 99 #[.pointer (some ⟨g0_, 0, none⟩), .slice A1 l1.length c1] w fun e w' => e = .returned (.tuple #[.int .i64 r1, .int .i64 r2, .bool r3]) ∧ Below w.heap.size w w' := by
 have HR0_0 := Aside0.mk hr0_0
 have HC0_0 := Aside0.mk hc0_0
 clear hr0_0 hc0_0
 have HR0_1 := Aside0.mk hr0_1
 have HC0_1 := Aside0.mk hc0_1
 clear hr0_1 hc0_1
 have HR0_2 := Aside0.mk hr0_2
 have HC0_2 := Aside0.mk hc0_2
 clear hr0_2 hc0_2
 have HR1 := Aside0.mk hr1
 have HC1 := Aside0.mk hc1
 clear hr1 hc1
 have BK0 := Aside0.mk hb0_
 clear hb0_
 have HB := Aside0.mk (Below.refl w.heap.size w)
 have H : (spec_l08Failure.l0 k l1 0 l0_0 l0_1 l0_2 a0_3 a0_4) = some (r1, r2, r3) := h
 clear h
 have H' := Aside0.mk H
 clear H
 go_enter Try.func99, Try.ntmps99
 go_wp2
 go_loopg [7] k (fun kq v7 w' => ∃ (x7_1 : Int) (x1003_1 : Int) (x1004_1 : Int), v7 = .int .i64 x7_1 ∧ Aside0 (spec_l08Failure.l0 kq l1 x7_1 l0_0 l0_1 l0_2 x1003_1 x1004_1 = some (r1, r2, r3)) ∧ Aside0 (kq ≤ k) ∧ Aside0 (w'.heap[g0_]? = some (.cells #[(.slice A0_0 l0_0.length c0_0), (.slice A0_1 l0_1.length c0_1), (.slice A0_2 l0_2.length c0_2), .int .i64 x1003_1, .int .i64 x1004_1] 33 (0, 0))) ∧ Aside0 (Below w.heap.size w w'))
 case atStart => exact ⟨(0), (a0_3), (a0_4), (by first | rfl | (simp; done) | (simp [*]; done) | (simp [Int.tdiv_eq_ediv_of_nonneg, *]; done)), H', ⟨Nat.le_refl _⟩, ⟨by (with_reducible repeat (first | refine blk_drewN ?_ _ | refine blk_drew ?_ | refine blk_alloc ?_ _)); exact BK0.out⟩, ⟨by repeat (first | (with_reducible first | exact HB.out | apply below_alloc | apply pw_below_drewN | apply below_drew1 | refine below_set ?_ GE0.out) | exact HB.out)⟩⟩
 case round =>
  clear H'
  try clear c1
  try clear p2
  obtain ⟨x7_1, x1003_1, x1004_1, rfl, HA, HK1, BK0, HB⟩ := hrel
  cases gk with
  | zero => exact absurd HA.out (by simp [spec_l08Failure.l0])
  | succ k1 =>
   have H := HA.out
   clear HA
   simp only [spec_l08Failure.l0] at H
   by_cases c3 : x7_1 < (l0_1.length : Int)
   ·rw [if_pos c3] at H
    have c3b0 : decide (x7_1 < (l0_1.length : Int)) = true := decide_eq_true c3
    clear c3
    have H' := Aside0.mk H
    clear H
    have hcz4_0 : wr.cell? ⟨g0_, 0, none⟩ = some (.slice A0_0 l0_0.length c0_0) := (blk_cell BK0.out 0).trans rfl
    have hcz4_1 : wr.cell? ⟨g0_, 1, none⟩ = some (.slice A0_1 l0_1.length c0_1) := (blk_cell BK0.out 1).trans rfl
    have hcz4_2 : wr.cell? ⟨g0_, 2, none⟩ = some (.slice A0_2 l0_2.length c0_2) := (blk_cell BK0.out 2).trans rfl
    have hcz4_3 : wr.cell? ⟨g0_, 3, none⟩ = some (.int .i64 x1003_1) := (blk_cell BK0.out 3).trans rfl
    have hcz4_4 : wr.cell? ⟨g0_, 4, none⟩ = some (.int .i64 x1004_1) := (blk_cell BK0.out 4).trans rfl
    have hfz4_0 := blk_frozen BK0.out 0
    have hfz4_1 := blk_frozen BK0.out 1
    have hfz4_2 := blk_frozen BK0.out 2
    have hfz4_3 := blk_frozen BK0.out 3
    have hfz4_4 := blk_frozen BK0.out 4
    go_wp2
    go_loopg [8] k1 (fun kq v8 w' => ∃ (x8_2 : Int) (x1003_2 : Int) (x1004_2 : Int), v8 = .int .i64 x8_2 ∧ Aside0 (spec_l08Failure.l1 kq l1 x7_1 x8_2 l0_0 l0_1 l0_2 x1003_2 x1004_2 = some (r1, r2, r3)) ∧ Aside0 (kq ≤ k1) ∧ Aside0 (w'.heap[g0_]? = some (.cells #[(.slice A0_0 l0_0.length c0_0), (.slice A0_1 l0_1.length c0_1), (.slice A0_2 l0_2.length c0_2), .int .i64 x1003_2, .int .i64 x1004_2] 33 (0, 0))) ∧ Aside0 (Below w.heap.size w w'))
    case atStart => exact ⟨(0), (x1003_1), (x1004_1), (by first | rfl | (simp; done) | (simp [*]; done) | (simp [Int.tdiv_eq_ediv_of_nonneg, *]; done)), H', ⟨Nat.le_refl _⟩, ⟨by (with_reducible repeat (first | refine blk_drewN ?_ _ | refine blk_drew ?_ | refine blk_alloc ?_ _)); exact BK0.out⟩, ⟨by repeat (first | (with_reducible first | exact HB.out | apply below_alloc | apply pw_below_drewN | apply below_drew1 | refine below_set ?_ GE0.out) | exact HB.out)⟩⟩
    case round =>
     clear H'
     try clear c1
     try clear p2
     try clear c3
     try clear c3b0
     try clear hcz4_0
     try clear hcz4_1
     try clear hcz4_2
     try clear hcz4_3
     try clear hcz4_4
     try clear hfz4_0
     try clear hfz4_1
     try clear hfz4_2
     try clear hfz4_3
     try clear hfz4_4
     try clear p2
     obtain ⟨x8_2, x1003_2, x1004_2, rfl, HA, HK2, BK0, HB⟩ := hrel
     cases gk with
     | zero => exact absurd HA.out (by simp [spec_l08Failure.l1])
     | succ k2 =>
      have H := HA.out
      clear HA
      simp only [spec_l08Failure.l1] at H
      by_cases c5 : x8_2 < (l0_0.length : Int)
      ·rw [if_pos c5] at H
       have c5b0 : decide (x8_2 < (l0_0.length : Int)) = true := decide_eq_true c5
       clear c5
       replace H := Option.bind_eq_some_iff.mp H
       obtain ⟨t549, A60, H⟩ := H
       replace H : (if 0 ≤ x8_2 then (if 0 ≤ x7_1 then (if x7_1 < (l0_1.length : Int) then (if (wrap64 (t549 + (wrap64 (((rd_T154 l0_0 x8_2).f0) * (rd l0_1 x7_1))))) > ((rd_T154 l0_0 x8_2).f1) then (some (x8_2, x7_1, true)) else (spec_l08Failure.l1 k2 l1 x7_1 (wrap64 (x8_2 + 1)) l0_0 l0_1 l0_2 x1003_2 x1004_2)) else (none)) else (none)) else (none)) = some (r1, r2, r3) := H
       have A6 := Aside0.mk A60
       clear A60
       by_cases c7 : 0 ≤ x8_2
       ·rw [if_pos c7] at H
        have c7b0 : decide (0 ≤ x8_2) = true := decide_eq_true c7
        clear c7
        by_cases c8 : 0 ≤ x7_1
        ·rw [if_pos c8] at H
         have c8b0 : decide (0 ≤ x7_1) = true := decide_eq_true c8
         clear c8
         by_cases c9 : x7_1 < (l0_1.length : Int)
         ·rw [if_pos c9] at H
          have c9b0 : decide (x7_1 < (l0_1.length : Int)) = true := decide_eq_true c9
          clear c9
          by_cases c10 : (wrap64 (t549 + (wrap64 (((rd_T154 l0_0 x8_2).f0) * (rd l0_1 x7_1))))) > ((rd_T154 l0_0 x8_2).f1)
          ·rw [if_pos c10] at H
           have c10b0 : decide (((rd_T154 l0_0 x8_2).f1) < (wrap64 (t549 + (wrap64 (((rd_T154 l0_0 x8_2).f0) * (rd l0_1 x7_1)))))) = true := decide_eq_true c10
           clear c10
           simp only [Option.some.injEq, Prod.mk.injEq] at H
           obtain ⟨rfl, rfl, rfl⟩ := H
           have hcz11_0 : wr.cell? ⟨g0_, 0, none⟩ = some (.slice A0_0 l0_0.length c0_0) := (blk_cell BK0.out 0).trans rfl
           have hcz11_1 : wr.cell? ⟨g0_, 1, none⟩ = some (.slice A0_1 l0_1.length c0_1) := (blk_cell BK0.out 1).trans rfl
           have hcz11_2 : wr.cell? ⟨g0_, 2, none⟩ = some (.slice A0_2 l0_2.length c0_2) := (blk_cell BK0.out 2).trans rfl
           have hcz11_3 : wr.cell? ⟨g0_, 3, none⟩ = some (.int .i64 x1003_2) := (blk_cell BK0.out 3).trans rfl
           have hcz11_4 : wr.cell? ⟨g0_, 4, none⟩ = some (.int .i64 x1004_2) := (blk_cell BK0.out 4).trans rfl
           have hfz11_0 := blk_frozen BK0.out 0
           have hfz11_1 := blk_frozen BK0.out 1
           have hfz11_2 := blk_frozen BK0.out 2
           have hfz11_3 := blk_frozen BK0.out 3
           have hfz11_4 := blk_frozen BK0.out 4
           try go_wp2
           have n0_ := Aside0.mk (blk_drew BK0.out)
           have n1_ := Aside0.mk (below_drew1 HB.out)
           clear BK0
           clear HB
           have BK0 := n0_
           have HB := n1_
           clear n0_ n1_
           have p550 : 0 ≤ (x8_2 : Int) := of_decide_eq_true (by assumption)
           have q550 : x8_2 < (l0_0.length : Int) := of_decide_eq_true (by assumption)
           obtain ⟨ad550, e550, hx550_0, hx550_1⟩ := at_T154 HR0_0.out x8_2 p550 q550
           have hw550_1 := hx550_1
           have hw550_0 := hx550_0
           cases e550
           replace hx550_0 := (HB.out.cell (World.block_lt_of_cell? w _ hx550_0)).trans hx550_0
           replace hx550_1 := (HB.out.cell (World.block_lt_of_cell? w _ hx550_1)).trans hx550_1
           replace p550 := eq_true p550
           replace q550 := eq_true q550
           have p551 : 0 ≤ (x7_1 : Int) := of_decide_eq_true (by assumption)
           have q551 : x7_1 < (l0_1.length : Int) := of_decide_eq_true (by assumption)
           obtain ⟨ad551, e551, hx551_0⟩ := Kd.at_int HR0_1.out x7_1 p551 q551
           have hw551_0 := hx551_0
           cases e551
           replace hx551_0 := (HB.out.cell (World.block_lt_of_cell? w _ hx551_0)).trans hx551_0
           replace p551 := eq_true p551
           replace q551 := eq_true q551
           have p552 : 0 ≤ (x8_2 : Int) := of_decide_eq_true (by assumption)
           have q552 : x8_2 < (l0_0.length : Int) := of_decide_eq_true (by assumption)
           obtain ⟨ad552, e552, hx552_0, hx552_1⟩ := at_T154 HR0_0.out x8_2 p552 q552
           have hw552_1 := hx552_1
           have hw552_0 := hx552_0
           obtain rfl : ad550 = ad552 := (by injection e552)
           replace hx552_0 := (HB.out.cell (World.block_lt_of_cell? w _ hx552_0)).trans hx552_0
           replace hx552_1 := (HB.out.cell (World.block_lt_of_cell? w _ hx552_1)).trans hx552_1
           replace p552 := eq_true p552
           replace q552 := eq_true q552
           refine start_ (n := 31) (S := fun w' => w'.cell? ⟨g0_, 0, none⟩ = some (.slice (some ad550) l0_0.length c0_0) ∧ w'.cell? ⟨g0_, 1, none⟩ = some (.slice (some ad551) l0_1.length c0_1) ∧ w'.cell? ⟨g0_, 2, none⟩ = some (.slice A0_2 l0_2.length c0_2) ∧ w'.cell? ⟨g0_, 3, none⟩ = some (.int .i64 x1003_2) ∧ w'.cell? ⟨g0_, 4, none⟩ = some (.int .i64 x1004_2) ∧ w'.cell? (ad550.add ((x8_2).toNat * 2)) = some (.int .i64 ((rd_T154 l0_0 x8_2).f0)) ∧ w'.cell? ⟨(ad550.add ((x8_2).toNat * 2)).block, (ad550.add ((x8_2).toNat * 2)).off + 1, none⟩ = some (.int .i64 ((rd_T154 l0_0 x8_2).f1)) ∧ w'.cell? (ad551.add (x7_1).toNat) = some (.int .i64 (rd l0_1 x7_1)) ∧ w'.cell? (ad550.add ((x8_2).toNat * 2)) = some (.int .i64 ((rd_T154 l0_0 x8_2).f0)) ∧ w'.cell? ⟨(ad550.add ((x8_2).toNat * 2)).block, (ad550.add ((x8_2).toNat * 2)).off + 1, none⟩ = some (.int .i64 ((rd_T154 l0_0 x8_2).f1))) (ds := []) p21_11000 (by kernel_rfl) rfl rfl ⟨(blk_cell BK0.out 0).trans rfl, (blk_cell BK0.out 1).trans rfl, (blk_cell BK0.out 2).trans rfl, (blk_cell BK0.out 3).trans rfl, (blk_cell BK0.out 4).trans rfl, ((HB.out.cell (World.block_lt_of_cell? w _ hw550_0)).trans hw550_0), ((HB.out.cell (World.block_lt_of_cell? w _ hw550_1)).trans hw550_1), ((HB.out.cell (World.block_lt_of_cell? w _ hw551_0)).trans hw551_0), ((HB.out.cell (World.block_lt_of_cell? w _ hw552_0)).trans hw552_0), ((HB.out.cell (World.block_lt_of_cell? w _ hw552_1)).trans hw552_1)⟩ (fun hHeld => ?_); refine with_tabW spec_l08Failure.tab7 spec_l08Failure.bits7 (fun HT_ HW_ => ?_)
           generalize wr.drew = w12 at BK0 HB hx550_0 hx550_1 hx551_0 hx552_0 hx552_1 hHeld ⊢
           refine pure_ (i := 0) (N := some 27) (v := ?_) (a' := ?_) p21_11001 rfl rfl (any_of HT_.out (by kernel_rfl)) (fun _ _ _ h => h) (Or.inl ⟨by rfl, ?_⟩) ?_ ?_
           rotate_left
           ·intro w'
            go_simp
            with_reducible rfl
           rotate_left
           ·simp only [Act.put, qa_, qz_, qs_, i64_w, i32_w]
            rfl
           refine pure_ (i := 1) (N := some 28) (v := ?_) (a' := ?_) p21_11002 rfl rfl (any_of HT_.out (by kernel_rfl)) (fun _ _ _ h => h) (Or.inl ⟨by rfl, ?_⟩) ?_ ?_
           rotate_left
           ·intro w'
            go_simp
            with_reducible rfl
           rotate_left
           ·simp only [Act.put, qa_, qz_, qs_, i64_w, i32_w]
            rfl
           refine pure_ (i := 2) (N := some 29) (v := ?_) (a' := ?_) p21_11003 rfl rfl (any_of HT_.out (by kernel_rfl)) (fun _ _ _ h => h) (Or.inl ⟨by rfl, ?_⟩) ?_ ?_
           rotate_left
           ·intro w'
            go_simp
            with_reducible rfl
           rotate_left
           ·simp only [Act.put, qa_, qz_, qs_, i64_w, i32_w]
            rfl
           refine pure_ (i := 3) (N := some 30) (v := ?_) (a' := ?_) p21_11004 rfl rfl (any_of HT_.out (by kernel_rfl)) (fun _ _ _ h => h) (Or.inl ⟨by rfl, ?_⟩) ?_ ?_
           rotate_left
           ·intro w'
            go_simp
            with_reducible rfl
           rotate_left
           ·simp only [Act.put, qa_, qz_, qs_, i64_w, i32_w]
            rfl
           refine pure_ (i := 5) (N := some 32) (v := ?_) (a' := ?_) p21_11005 rfl rfl (any_of HT_.out (by kernel_rfl)) (fun _ _ _ h => h) (Or.inl ⟨by rfl, ?_⟩) ?_ ?_
           rotate_left
           ·intro w'
            go_simp
            with_reducible rfl
           rotate_left
           ·simp only [Act.put, qa_, qz_, qs_, i64_w, i32_w]
            rfl
           refine pure_ (i := 6) (N := some 33) (v := ?_) (a' := ?_) p21_11006 rfl rfl (any_of HT_.out (by kernel_rfl)) (fun _ _ _ h => h) (Or.inl ⟨by rfl, ?_⟩) ?_ ?_
           rotate_left
           ·intro w'
            go_simp
            with_reducible rfl
           rotate_left
           ·simp only [Act.put, qa_, qz_, qs_, i64_w, i32_w]
            rfl
           refine pure_ (i := 7) (N := some 34) (v := ?_) (a' := ?_) p21_11007 rfl rfl (any_of HT_.out (by kernel_rfl)) (fun _ _ _ h => h) (Or.inl ⟨by rfl, ?_⟩) ?_ ?_
           rotate_left
           ·intro w'
            go_simp
            with_reducible rfl
           rotate_left
           ·simp only [Act.put, qa_, qz_, qs_, i64_w, i32_w]
            rfl
           refine pure_ (i := 9) (N := some 36) (v := ?_) (a' := ?_) p21_11008 rfl rfl (any_of HT_.out (by kernel_rfl)) (fun _ _ _ h => h) (Or.inl ⟨by rfl, ?_⟩) ?_ ?_
           rotate_left
           ·intro w'
            go_simp
            with_reducible rfl
           rotate_left
           ·simp only [Act.put, qa_, qz_, qs_, i64_w, i32_w]
            rfl
           refine pure_ (i := 13) (N := some 40) (v := ?_) (a' := ?_) p21_11009 rfl rfl (any_of HT_.out (by kernel_rfl)) (fun _ _ _ h => h) (Or.inl ⟨by rfl, ?_⟩) ?_ ?_
           rotate_left
           ·intro w'
            go_simp
            with_reducible rfl
           rotate_left
           ·simp only [Act.put, qa_, qz_, qs_, i64_w, i32_w]
            rfl
           refine pure_ (i := 14) (N := some 41) (v := ?_) (a' := ?_) p21_11010 rfl rfl (any_of HT_.out (by kernel_rfl)) (fun _ _ _ h => h) (Or.inl ⟨by rfl, ?_⟩) ?_ ?_
           rotate_left
           ·intro w'
            go_simp
            with_reducible rfl
           rotate_left
           ·simp only [Act.put, qa_, qz_, qs_, i64_w, i32_w]
            rfl
           refine pure_ (i := 15) (N := some 42) (v := ?_) (a' := ?_) p21_11011 rfl rfl (any_of HT_.out (by kernel_rfl)) (fun _ _ _ h => h) (Or.inl ⟨by rfl, ?_⟩) ?_ ?_
           rotate_left
           ·intro w'
            go_simp
            with_reducible rfl
           rotate_left
           ·simp only [Act.put, qa_, qz_, qs_, i64_w, i32_w]
            rfl
           refine pure_ (i := 17) (N := some 44) (v := ?_) (a' := ?_) p21_11012 rfl rfl (any_of HT_.out (by kernel_rfl)) (fun _ _ _ h => h) (Or.inl ⟨by rfl, ?_⟩) ?_ ?_
           rotate_left
           ·intro w'
            go_simp
            with_reducible rfl
           rotate_left
           ·simp only [Act.put, qa_, qz_, qs_, i64_w, i32_w]
            rfl
           refine pure_ (i := 22) (N := some 49) (v := ?_) (a' := ?_) p21_11013 rfl rfl (any_of HT_.out (by kernel_rfl)) (fun _ _ _ h => h) (Or.inl ⟨by rfl, ?_⟩) ?_ ?_
           rotate_left
           ·intro w'
            go_simp
            with_reducible rfl
           rotate_left
           ·simp only [Act.put, qa_, qz_, qs_, i64_w, i32_w]
            rfl
           refine pure_ (i := 23) (N := some 50) (v := ?_) (a' := ?_) p21_11014 rfl rfl (any_of HT_.out (by kernel_rfl)) (fun _ _ _ h => h) (Or.inl ⟨by rfl, ?_⟩) ?_ ?_
           rotate_left
           ·intro w'
            go_simp
            with_reducible rfl
           rotate_left
           ·simp only [Act.put, qa_, qz_, qs_, i64_w, i32_w]
            rfl
           refine pure_ (i := 24) (N := some 51) (v := ?_) (a' := ?_) p21_11015 rfl rfl (any_of HT_.out (by kernel_rfl)) (fun _ _ _ h => h) (Or.inl ⟨by rfl, ?_⟩) ?_ ?_
           rotate_left
           ·intro w'
            go_simp
            with_reducible rfl
           rotate_left
           ·simp only [Act.put, qa_, qz_, qs_, i64_w, i32_w]
            rfl
           refine pure_ (i := 26) (N := some 53) (v := ?_) (a' := ?_) p21_11016 rfl rfl (any_of HT_.out (by kernel_rfl)) (fun _ _ _ h => h) (Or.inl ⟨by rfl, ?_⟩) ?_ ?_
           rotate_left
           ·intro w'
            go_simp
            with_reducible rfl
           rotate_left
           ·simp only [Act.put, qa_, qz_, qs_, i64_w, i32_w]
            rfl
           refine take_ (i := 8) (N := some 35) (v := ?_) (a' := ?_) p21_11017 rfl rfl (take_ofW HT_.out HW_.out (by kernel_rfl)) (fun _ _ _ h => h) (Or.inl ⟨by rfl, ?_⟩) hHeld ?_ ?_
           rotate_left
           ·rintro w' ⟨s0, s1, s2, s3, s4, s5, s6, s7, s8, s9⟩
            go_simp
            with_reducible rfl
           rotate_left
           ·simp only [Act.put, qa_, qz_, qs_, i64_w, i32_w]
            rfl
           refine pure_ (i := 10) (N := some 37) (v := ?_) (a' := ?_) p21_11018 rfl rfl (any_of HT_.out (by kernel_rfl)) (fun _ _ _ h => h) (Or.inl ⟨by rfl, ?_⟩) ?_ ?_
           rotate_left
           ·intro w'
            go_simp
            with_reducible rfl
           rotate_left
           ·simp only [Act.put, qa_, qz_, qs_, i64_w, i32_w]
            rfl
           refine pure_ (i := 11) (N := some 38) (v := ?_) (a' := ?_) p21_11019 rfl rfl (any_of HT_.out (by kernel_rfl)) (fun _ _ _ h => h) (Or.inl ⟨by rfl, ?_⟩) ?_ ?_
           rotate_left
           ·intro w'
            go_simp
            with_reducible rfl
           rotate_left
           ·simp only [Act.put, qa_, qz_, qs_, i64_w, i32_w]
            rfl
           refine take_ (i := 12) (N := some 39) (v := ?_) (a' := ?_) p21_11020 rfl rfl (take_ofW HT_.out HW_.out (by kernel_rfl)) (fun _ _ _ h => h) (Or.inl ⟨by rfl, ?_⟩) hHeld ?_ ?_
           rotate_left
           ·rintro w' ⟨s0, s1, s2, s3, s4, s5, s6, s7, s8, s9⟩
            go_simp
            with_reducible rfl
           rotate_left
           ·simp only [Act.put, qa_, qz_, qs_, i64_w, i32_w]
            rfl
           refine take_ (i := 16) (N := some 43) (v := ?_) (a' := ?_) p21_11021 rfl rfl (take_ofW HT_.out HW_.out (by kernel_rfl)) (fun _ _ _ h => h) (Or.inl ⟨by rfl, ?_⟩) hHeld ?_ ?_
           rotate_left
           ·rintro w' ⟨s0, s1, s2, s3, s4, s5, s6, s7, s8, s9⟩
            go_simp
            with_reducible rfl
           rotate_left
           ·simp only [Act.put, qa_, qz_, qs_, i64_w, i32_w]
            rfl
           refine pure_ (i := 18) (N := some 45) (v := ?_) (a' := ?_) p21_11022 rfl rfl (any_of HT_.out (by kernel_rfl)) (fun _ _ _ h => h) (Or.inl ⟨by rfl, ?_⟩) ?_ ?_
           rotate_left
           ·intro w'
            go_simp
            with_reducible rfl
           rotate_left
           ·simp only [Act.put, qa_, qz_, qs_, i64_w, i32_w]
            rfl
           refine take_ (i := 19) (N := some 46) (v := ?_) (a' := ?_) p21_11023 rfl rfl (take_ofW HT_.out HW_.out (by kernel_rfl)) (fun _ _ _ h => h) (Or.inl ⟨by rfl, ?_⟩) hHeld ?_ ?_
           rotate_left
           ·rintro w' ⟨s0, s1, s2, s3, s4, s5, s6, s7, s8, s9⟩
            go_simp
            with_reducible rfl
           rotate_left
           ·simp only [Act.put, qa_, qz_, qs_, i64_w, i32_w]
            rfl
           refine pure_ (i := 20) (N := some 47) (v := ?_) (a' := ?_) p21_11024 rfl rfl (any_of HT_.out (by kernel_rfl)) (fun _ _ _ h => h) (Or.inl ⟨by rfl, ?_⟩) ?_ ?_
           rotate_left
           ·intro w'
            go_simp
            with_reducible rfl
           rotate_left
           ·simp only [Act.put, qa_, qz_, qs_, i64_w, i32_w]
            rfl
           refine take_ (i := 25) (N := some 52) (v := ?_) (a' := ?_) p21_11025 rfl rfl (take_ofW HT_.out HW_.out (by kernel_rfl)) (fun _ _ _ h => h) (Or.inl ⟨by rfl, ?_⟩) hHeld ?_ ?_
           rotate_left
           ·rintro w' ⟨s0, s1, s2, s3, s4, s5, s6, s7, s8, s9⟩
            go_simp
            with_reducible rfl
           rotate_left
           ·simp only [Act.put, qa_, qz_, qs_, i64_w, i32_w]
            rfl
           refine pure_ (i := 27) (N := some 54) (v := ?_) (a' := ?_) p21_11026 rfl rfl (any_of HT_.out (by kernel_rfl)) (fun _ _ _ h => h) (Or.inl ⟨by rfl, ?_⟩) ?_ ?_
           rotate_left
           ·intro w'
            go_simp
            with_reducible rfl
           rotate_left
           ·simp only [Act.put, qa_, qz_, qs_, i64_w, i32_w]
            rfl
           refine pure_ (i := 28) (N := some 55) (v := ?_) (a' := ?_) p21_11027 rfl rfl (any_of HT_.out (by kernel_rfl)) (fun _ _ _ h => h) (Or.inl ⟨by rfl, ?_⟩) ?_ ?_
           rotate_left
           ·intro w'
            go_simp
            with_reducible rfl
           rotate_left
           ·simp only [Act.put, qa_, qz_, qs_, i64_w, i32_w]
            rfl
           refine take_ (i := 29) (N := some 56) (v := ?_) (a' := ?_) p21_11028 rfl rfl (take_ofW HT_.out HW_.out (by kernel_rfl)) (fun _ _ _ h => h) (Or.inl ⟨by rfl, ?_⟩) hHeld ?_ ?_
           rotate_left
           ·rintro w' ⟨s0, s1, s2, s3, s4, s5, s6, s7, s8, s9⟩
            go_simp
            with_reducible rfl
           rotate_left
           ·simp only [Act.put, qa_, qz_, qs_, i64_w, i32_w]
            rfl
           refine one_ (i := 4) (N := some 31) p21_11029 rfl rfl (one_of HT_.out (by kernel_rfl)) (by decide) (fun K hK => ?_)
           refine goes_ Try.func106 (by kernel_rfl) rfl #[.pointer (some ⟨g0_, 0, none⟩), .slice A1 l1.length c1, .int .i64 x8_2, .int .i64 x7_1] (by rfl) rfl rfl (by (try simp only [List.map_toArray, List.map_cons, List.map_nil]); first | done | rfl) ?_
           with_reducible refine (spec_l08Worn.calls k2 g0_ (some ad550) c0_0 l0_0 (some ad551) c0_1 l0_1 A0_2 c0_2 l0_2 x1003_2 x1004_2 _ _ l1 x8_2 x7_1 t549 _ ?side1 ?side2 ?side3 ?side4 ?side5 ?side6 ?side7 ?side8 ?side9 A6.out).mono ?_
           (case side1 => repeat (first | exact (Kd.C_below HR0_0.out HB.out) | (with_reducible first | refine Kd.C_alloc ?_ _ | refine Kd.C_drewN ?_ _ | refine Kd.C_drew ?_)))
           (case side2 => exact HC0_0.out)
           (case side3 => repeat (first | exact (Kd.C_below HR0_1.out HB.out) | (with_reducible first | refine Kd.C_alloc ?_ _ | refine Kd.C_drewN ?_ _ | refine Kd.C_drew ?_)))
           (case side4 => exact HC0_1.out)
           (case side5 => repeat (first | exact (Kd.C_below HR0_2.out HB.out) | (with_reducible first | refine Kd.C_alloc ?_ _ | refine Kd.C_drewN ?_ _ | refine Kd.C_drew ?_)))
           (case side6 => exact HC0_2.out)
           (case side7 => repeat (first | exact (Kd.C_below HR1.out HB.out) | (with_reducible first | refine Kd.C_alloc ?_ _ | refine Kd.C_drewN ?_ _ | refine Kd.C_drew ?_)))
           (case side8 => exact HC1.out)
           (case side9 => exact (by (with_reducible repeat (first | refine blk_drewN ?_ _ | refine blk_drew ?_ | refine blk_alloc ?_ _)); exact BK0.out))
           rintro e w13 ⟨rfl, hb⟩
           (try (have db_ : ∀ {w w' : World}, Drawn0 w w' → Below w.heap.size w w' := (by intro w w' h_; obtain ⟨n_, rfl⟩ := h_; exact pw_below_drewN (Below.refl _ _) _); replace hb := db_ hb; clear db_))
           refine ⟨_, rfl, ?_⟩
           have n0_ := Aside0.mk (blk_below (g := g0_) (o := .cells #[.slice (some ad550) l0_0.length c0_0, .slice (some ad551) l0_1.length c0_1, .slice A0_2 l0_2.length c0_2, .int .i64 x1003_2, .int .i64 x1004_2] 33 (0, 0)) (by (with_reducible repeat (first | refine blk_drewN ?_ _ | refine blk_drew ?_ | refine blk_alloc ?_ _)); exact BK0.out) hb)
           have n1_ := Aside0.mk (below_step (by repeat (first | (with_reducible first | exact HB.out | apply below_alloc | apply pw_below_drewN | apply below_drew1 | refine below_set ?_ GE0.out) | exact HB.out)) hb)
           clear BK0
           clear HB
           have BK0 := n0_
           have HB := n1_
           clear n0_ n1_
           (try clear hb)
           (try clear hb2)
           (try clear hk)
           (try clear hi)
           refine hK.out _ _ ⟨(blk_cell BK0.out 0).trans rfl, (blk_cell BK0.out 1).trans rfl, (blk_cell BK0.out 2).trans rfl, (blk_cell BK0.out 3).trans rfl, (blk_cell BK0.out 4).trans rfl, ((HB.out.cell (World.block_lt_of_cell? w _ hw550_0)).trans hw550_0), ((HB.out.cell (World.block_lt_of_cell? w _ hw550_1)).trans hw550_1), ((HB.out.cell (World.block_lt_of_cell? w _ hw551_0)).trans hw551_0), ((HB.out.cell (World.block_lt_of_cell? w _ hw552_0)).trans hw552_0), ((HB.out.cell (World.block_lt_of_cell? w _ hw552_1)).trans hw552_1)⟩ (fun hHeld => ?_)
           clear hK K
           refine norm_ (a' := ?_) ?_ ?_
           rotate_left
           ·show Act.put _ (some 31) _ = _
            simp only [Act.put, qa_, qz_, qs_, i64_w, i32_w]
            rfl
           refine pure_ (i := 21) (N := some 48) (v := ?_) (a' := ?_) p21_11030 rfl rfl (any_of HT_.out (by kernel_rfl)) (fun _ _ _ h => h) (Or.inl ⟨by rfl, ?_⟩) ?_ ?_
           rotate_left
           ·intro w'
            go_simp
            with_reducible rfl
           rotate_left
           ·simp only [Act.put, qa_, qz_, qs_, i64_w, i32_w]
            rfl
           refine pure_ (i := 30) (N := some 57) (v := ?_) (a' := ?_) p21_11031 rfl rfl (any_of HT_.out (by kernel_rfl)) (fun _ _ _ h => h) (Or.inl ⟨by rfl, ?_⟩) ?_ ?_
           rotate_left
           ·intro w'
            go_simp
            with_reducible rfl
           rotate_left
           ·simp only [Act.put, qa_, qz_, qs_, i64_w, i32_w]
            rfl
           refine done_ (done_of HT_.out (by kernel_rfl)) ?_
           try go_wp2
           go_ret3
           exact ⟨by first | rfl | (simp [errW_none, errW_some] <;> rfl) | (simp [*, errW_none, errW_some] <;> rfl) | (simp [Int.tdiv_eq_ediv_of_nonneg, *]; done), by repeat (first | (with_reducible first | exact HB.out | apply below_alloc | apply pw_below_drewN | apply below_drew1 | refine below_set ?_ GE0.out) | exact HB.out)⟩
          ·rw [if_neg c10] at H
           have c10b0 : decide (((rd_T154 l0_0 x8_2).f1) < (wrap64 (t549 + (wrap64 (((rd_T154 l0_0 x8_2).f0) * (rd l0_1 x7_1)))))) = false := decide_eq_false c10
           clear c10
           have H' := Aside0.mk H
           clear H
           have hcz14_0 : wr.cell? ⟨g0_, 0, none⟩ = some (.slice A0_0 l0_0.length c0_0) := (blk_cell BK0.out 0).trans rfl
           have hcz14_1 : wr.cell? ⟨g0_, 1, none⟩ = some (.slice A0_1 l0_1.length c0_1) := (blk_cell BK0.out 1).trans rfl
           have hcz14_2 : wr.cell? ⟨g0_, 2, none⟩ = some (.slice A0_2 l0_2.length c0_2) := (blk_cell BK0.out 2).trans rfl
           have hcz14_3 : wr.cell? ⟨g0_, 3, none⟩ = some (.int .i64 x1003_2) := (blk_cell BK0.out 3).trans rfl
           have hcz14_4 : wr.cell? ⟨g0_, 4, none⟩ = some (.int .i64 x1004_2) := (blk_cell BK0.out 4).trans rfl
           have hfz14_0 := blk_frozen BK0.out 0
           have hfz14_1 := blk_frozen BK0.out 1
           have hfz14_2 := blk_frozen BK0.out 2
           have hfz14_3 := blk_frozen BK0.out 3
           have hfz14_4 := blk_frozen BK0.out 4
           try go_wp2
           have n0_ := Aside0.mk (blk_drew BK0.out)
           have n1_ := Aside0.mk (below_drew1 HB.out)
           clear BK0
           clear HB
           have BK0 := n0_
           have HB := n1_
           clear n0_ n1_
           have p550 : 0 ≤ (x8_2 : Int) := of_decide_eq_true (by assumption)
           have q550 : x8_2 < (l0_0.length : Int) := of_decide_eq_true (by assumption)
           obtain ⟨ad550, e550, hx550_0, hx550_1⟩ := at_T154 HR0_0.out x8_2 p550 q550
           have hw550_1 := hx550_1
           have hw550_0 := hx550_0
           cases e550
           replace hx550_0 := (HB.out.cell (World.block_lt_of_cell? w _ hx550_0)).trans hx550_0
           replace hx550_1 := (HB.out.cell (World.block_lt_of_cell? w _ hx550_1)).trans hx550_1
           replace p550 := eq_true p550
           replace q550 := eq_true q550
           have p551 : 0 ≤ (x7_1 : Int) := of_decide_eq_true (by assumption)
           have q551 : x7_1 < (l0_1.length : Int) := of_decide_eq_true (by assumption)
           obtain ⟨ad551, e551, hx551_0⟩ := Kd.at_int HR0_1.out x7_1 p551 q551
           have hw551_0 := hx551_0
           cases e551
           replace hx551_0 := (HB.out.cell (World.block_lt_of_cell? w _ hx551_0)).trans hx551_0
           replace p551 := eq_true p551
           replace q551 := eq_true q551
           have p552 : 0 ≤ (x8_2 : Int) := of_decide_eq_true (by assumption)
           have q552 : x8_2 < (l0_0.length : Int) := of_decide_eq_true (by assumption)
           obtain ⟨ad552, e552, hx552_0, hx552_1⟩ := at_T154 HR0_0.out x8_2 p552 q552
           have hw552_1 := hx552_1
           have hw552_0 := hx552_0
           obtain rfl : ad550 = ad552 := (by injection e552)
           replace hx552_0 := (HB.out.cell (World.block_lt_of_cell? w _ hx552_0)).trans hx552_0
           replace hx552_1 := (HB.out.cell (World.block_lt_of_cell? w _ hx552_1)).trans hx552_1
           replace p552 := eq_true p552
           replace q552 := eq_true q552
           refine start_ (n := 31) (S := fun w' => w'.cell? ⟨g0_, 0, none⟩ = some (.slice (some ad550) l0_0.length c0_0) ∧ w'.cell? ⟨g0_, 1, none⟩ = some (.slice (some ad551) l0_1.length c0_1) ∧ w'.cell? ⟨g0_, 2, none⟩ = some (.slice A0_2 l0_2.length c0_2) ∧ w'.cell? ⟨g0_, 3, none⟩ = some (.int .i64 x1003_2) ∧ w'.cell? ⟨g0_, 4, none⟩ = some (.int .i64 x1004_2) ∧ w'.cell? (ad550.add ((x8_2).toNat * 2)) = some (.int .i64 ((rd_T154 l0_0 x8_2).f0)) ∧ w'.cell? ⟨(ad550.add ((x8_2).toNat * 2)).block, (ad550.add ((x8_2).toNat * 2)).off + 1, none⟩ = some (.int .i64 ((rd_T154 l0_0 x8_2).f1)) ∧ w'.cell? (ad551.add (x7_1).toNat) = some (.int .i64 (rd l0_1 x7_1)) ∧ w'.cell? (ad550.add ((x8_2).toNat * 2)) = some (.int .i64 ((rd_T154 l0_0 x8_2).f0)) ∧ w'.cell? ⟨(ad550.add ((x8_2).toNat * 2)).block, (ad550.add ((x8_2).toNat * 2)).off + 1, none⟩ = some (.int .i64 ((rd_T154 l0_0 x8_2).f1))) (ds := []) p21_11000 (by kernel_rfl) rfl rfl ⟨(blk_cell BK0.out 0).trans rfl, (blk_cell BK0.out 1).trans rfl, (blk_cell BK0.out 2).trans rfl, (blk_cell BK0.out 3).trans rfl, (blk_cell BK0.out 4).trans rfl, ((HB.out.cell (World.block_lt_of_cell? w _ hw550_0)).trans hw550_0), ((HB.out.cell (World.block_lt_of_cell? w _ hw550_1)).trans hw550_1), ((HB.out.cell (World.block_lt_of_cell? w _ hw551_0)).trans hw551_0), ((HB.out.cell (World.block_lt_of_cell? w _ hw552_0)).trans hw552_0), ((HB.out.cell (World.block_lt_of_cell? w _ hw552_1)).trans hw552_1)⟩ (fun hHeld => ?_); refine with_tabW spec_l08Failure.tab7 spec_l08Failure.bits7 (fun HT_ HW_ => ?_)
           generalize wr.drew = w15 at BK0 HB hx550_0 hx550_1 hx551_0 hx552_0 hx552_1 hHeld ⊢
           refine pure_ (i := 0) (N := some 27) (v := ?_) (a' := ?_) p21_11001 rfl rfl (any_of HT_.out (by kernel_rfl)) (fun _ _ _ h => h) (Or.inl ⟨by rfl, ?_⟩) ?_ ?_
           rotate_left
           ·intro w'
            go_simp
            with_reducible rfl
           rotate_left
           ·simp only [Act.put, qa_, qz_, qs_, i64_w, i32_w]
            rfl
           refine pure_ (i := 1) (N := some 28) (v := ?_) (a' := ?_) p21_11002 rfl rfl (any_of HT_.out (by kernel_rfl)) (fun _ _ _ h => h) (Or.inl ⟨by rfl, ?_⟩) ?_ ?_
           rotate_left
           ·intro w'
            go_simp
            with_reducible rfl
           rotate_left
           ·simp only [Act.put, qa_, qz_, qs_, i64_w, i32_w]
            rfl
           refine pure_ (i := 2) (N := some 29) (v := ?_) (a' := ?_) p21_11003 rfl rfl (any_of HT_.out (by kernel_rfl)) (fun _ _ _ h => h) (Or.inl ⟨by rfl, ?_⟩) ?_ ?_
           rotate_left
           ·intro w'
            go_simp
            with_reducible rfl
           rotate_left
           ·simp only [Act.put, qa_, qz_, qs_, i64_w, i32_w]
            rfl
           refine pure_ (i := 3) (N := some 30) (v := ?_) (a' := ?_) p21_11004 rfl rfl (any_of HT_.out (by kernel_rfl)) (fun _ _ _ h => h) (Or.inl ⟨by rfl, ?_⟩) ?_ ?_
           rotate_left
           ·intro w'
            go_simp
            with_reducible rfl
           rotate_left
           ·simp only [Act.put, qa_, qz_, qs_, i64_w, i32_w]
            rfl
           refine pure_ (i := 5) (N := some 32) (v := ?_) (a' := ?_) p21_11005 rfl rfl (any_of HT_.out (by kernel_rfl)) (fun _ _ _ h => h) (Or.inl ⟨by rfl, ?_⟩) ?_ ?_
           rotate_left
           ·intro w'
            go_simp
            with_reducible rfl
           rotate_left
           ·simp only [Act.put, qa_, qz_, qs_, i64_w, i32_w]
            rfl
           refine pure_ (i := 6) (N := some 33) (v := ?_) (a' := ?_) p21_11006 rfl rfl (any_of HT_.out (by kernel_rfl)) (fun _ _ _ h => h) (Or.inl ⟨by rfl, ?_⟩) ?_ ?_
           rotate_left
           ·intro w'
            go_simp
            with_reducible rfl
           rotate_left
           ·simp only [Act.put, qa_, qz_, qs_, i64_w, i32_w]
            rfl
           refine pure_ (i := 7) (N := some 34) (v := ?_) (a' := ?_) p21_11007 rfl rfl (any_of HT_.out (by kernel_rfl)) (fun _ _ _ h => h) (Or.inl ⟨by rfl, ?_⟩) ?_ ?_
           rotate_left
           ·intro w'
            go_simp
            with_reducible rfl
           rotate_left
           ·simp only [Act.put, qa_, qz_, qs_, i64_w, i32_w]
            rfl
           refine pure_ (i := 9) (N := some 36) (v := ?_) (a' := ?_) p21_11008 rfl rfl (any_of HT_.out (by kernel_rfl)) (fun _ _ _ h => h) (Or.inl ⟨by rfl, ?_⟩) ?_ ?_
           rotate_left
           ·intro w'
            go_simp
            with_reducible rfl
           rotate_left
           ·simp only [Act.put, qa_, qz_, qs_, i64_w, i32_w]
            rfl
           refine pure_ (i := 13) (N := some 40) (v := ?_) (a' := ?_) p21_11009 rfl rfl (any_of HT_.out (by kernel_rfl)) (fun _ _ _ h => h) (Or.inl ⟨by rfl, ?_⟩) ?_ ?_
           rotate_left
           ·intro w'
            go_simp
            with_reducible rfl
           rotate_left
           ·simp only [Act.put, qa_, qz_, qs_, i64_w, i32_w]
            rfl
           refine pure_ (i := 14) (N := some 41) (v := ?_) (a' := ?_) p21_11010 rfl rfl (any_of HT_.out (by kernel_rfl)) (fun _ _ _ h => h) (Or.inl ⟨by rfl, ?_⟩) ?_ ?_
           rotate_left
           ·intro w'
            go_simp
            with_reducible rfl
           rotate_left
           ·simp only [Act.put, qa_, qz_, qs_, i64_w, i32_w]
            rfl
           refine pure_ (i := 15) (N := some 42) (v := ?_) (a' := ?_) p21_11011 rfl rfl (any_of HT_.out (by kernel_rfl)) (fun _ _ _ h => h) (Or.inl ⟨by rfl, ?_⟩) ?_ ?_
           rotate_left
           ·intro w'
            go_simp
            with_reducible rfl
           rotate_left
           ·simp only [Act.put, qa_, qz_, qs_, i64_w, i32_w]
            rfl
           refine pure_ (i := 17) (N := some 44) (v := ?_) (a' := ?_) p21_11012 rfl rfl (any_of HT_.out (by kernel_rfl)) (fun _ _ _ h => h) (Or.inl ⟨by rfl, ?_⟩) ?_ ?_
           rotate_left
           ·intro w'
            go_simp
            with_reducible rfl
           rotate_left
           ·simp only [Act.put, qa_, qz_, qs_, i64_w, i32_w]
            rfl
           refine pure_ (i := 22) (N := some 49) (v := ?_) (a' := ?_) p21_11013 rfl rfl (any_of HT_.out (by kernel_rfl)) (fun _ _ _ h => h) (Or.inl ⟨by rfl, ?_⟩) ?_ ?_
           rotate_left
           ·intro w'
            go_simp
            with_reducible rfl
           rotate_left
           ·simp only [Act.put, qa_, qz_, qs_, i64_w, i32_w]
            rfl
           refine pure_ (i := 23) (N := some 50) (v := ?_) (a' := ?_) p21_11014 rfl rfl (any_of HT_.out (by kernel_rfl)) (fun _ _ _ h => h) (Or.inl ⟨by rfl, ?_⟩) ?_ ?_
           rotate_left
           ·intro w'
            go_simp
            with_reducible rfl
           rotate_left
           ·simp only [Act.put, qa_, qz_, qs_, i64_w, i32_w]
            rfl
           refine pure_ (i := 24) (N := some 51) (v := ?_) (a' := ?_) p21_11015 rfl rfl (any_of HT_.out (by kernel_rfl)) (fun _ _ _ h => h) (Or.inl ⟨by rfl, ?_⟩) ?_ ?_
           rotate_left
           ·intro w'
            go_simp
            with_reducible rfl
           rotate_left
           ·simp only [Act.put, qa_, qz_, qs_, i64_w, i32_w]
            rfl
           refine pure_ (i := 26) (N := some 53) (v := ?_) (a' := ?_) p21_11016 rfl rfl (any_of HT_.out (by kernel_rfl)) (fun _ _ _ h => h) (Or.inl ⟨by rfl, ?_⟩) ?_ ?_
           rotate_left
           ·intro w'
            go_simp
            with_reducible rfl
           rotate_left
           ·simp only [Act.put, qa_, qz_, qs_, i64_w, i32_w]
            rfl
           refine take_ (i := 8) (N := some 35) (v := ?_) (a' := ?_) p21_11017 rfl rfl (take_ofW HT_.out HW_.out (by kernel_rfl)) (fun _ _ _ h => h) (Or.inl ⟨by rfl, ?_⟩) hHeld ?_ ?_
           rotate_left
           ·rintro w' ⟨s0, s1, s2, s3, s4, s5, s6, s7, s8, s9⟩
            go_simp
            with_reducible rfl
           rotate_left
           ·simp only [Act.put, qa_, qz_, qs_, i64_w, i32_w]
            rfl
           refine pure_ (i := 10) (N := some 37) (v := ?_) (a' := ?_) p21_11018 rfl rfl (any_of HT_.out (by kernel_rfl)) (fun _ _ _ h => h) (Or.inl ⟨by rfl, ?_⟩) ?_ ?_
           rotate_left
           ·intro w'
            go_simp
            with_reducible rfl
           rotate_left
           ·simp only [Act.put, qa_, qz_, qs_, i64_w, i32_w]
            rfl
           refine pure_ (i := 11) (N := some 38) (v := ?_) (a' := ?_) p21_11019 rfl rfl (any_of HT_.out (by kernel_rfl)) (fun _ _ _ h => h) (Or.inl ⟨by rfl, ?_⟩) ?_ ?_
           rotate_left
           ·intro w'
            go_simp
            with_reducible rfl
           rotate_left
           ·simp only [Act.put, qa_, qz_, qs_, i64_w, i32_w]
            rfl
           refine take_ (i := 12) (N := some 39) (v := ?_) (a' := ?_) p21_11020 rfl rfl (take_ofW HT_.out HW_.out (by kernel_rfl)) (fun _ _ _ h => h) (Or.inl ⟨by rfl, ?_⟩) hHeld ?_ ?_
           rotate_left
           ·rintro w' ⟨s0, s1, s2, s3, s4, s5, s6, s7, s8, s9⟩
            go_simp
            with_reducible rfl
           rotate_left
           ·simp only [Act.put, qa_, qz_, qs_, i64_w, i32_w]
            rfl
           refine take_ (i := 16) (N := some 43) (v := ?_) (a' := ?_) p21_11021 rfl rfl (take_ofW HT_.out HW_.out (by kernel_rfl)) (fun _ _ _ h => h) (Or.inl ⟨by rfl, ?_⟩) hHeld ?_ ?_
           rotate_left
           ·rintro w' ⟨s0, s1, s2, s3, s4, s5, s6, s7, s8, s9⟩
            go_simp
            with_reducible rfl
           rotate_left
           ·simp only [Act.put, qa_, qz_, qs_, i64_w, i32_w]
            rfl
           refine pure_ (i := 18) (N := some 45) (v := ?_) (a' := ?_) p21_11022 rfl rfl (any_of HT_.out (by kernel_rfl)) (fun _ _ _ h => h) (Or.inl ⟨by rfl, ?_⟩) ?_ ?_
           rotate_left
           ·intro w'
            go_simp
            with_reducible rfl
           rotate_left
           ·simp only [Act.put, qa_, qz_, qs_, i64_w, i32_w]
            rfl
           refine take_ (i := 19) (N := some 46) (v := ?_) (a' := ?_) p21_11023 rfl rfl (take_ofW HT_.out HW_.out (by kernel_rfl)) (fun _ _ _ h => h) (Or.inl ⟨by rfl, ?_⟩) hHeld ?_ ?_
           rotate_left
           ·rintro w' ⟨s0, s1, s2, s3, s4, s5, s6, s7, s8, s9⟩
            go_simp
            with_reducible rfl
           rotate_left
           ·simp only [Act.put, qa_, qz_, qs_, i64_w, i32_w]
            rfl
           refine pure_ (i := 20) (N := some 47) (v := ?_) (a' := ?_) p21_11024 rfl rfl (any_of HT_.out (by kernel_rfl)) (fun _ _ _ h => h) (Or.inl ⟨by rfl, ?_⟩) ?_ ?_
           rotate_left
           ·intro w'
            go_simp
            with_reducible rfl
           rotate_left
           ·simp only [Act.put, qa_, qz_, qs_, i64_w, i32_w]
            rfl
           refine take_ (i := 25) (N := some 52) (v := ?_) (a' := ?_) p21_11025 rfl rfl (take_ofW HT_.out HW_.out (by kernel_rfl)) (fun _ _ _ h => h) (Or.inl ⟨by rfl, ?_⟩) hHeld ?_ ?_
           rotate_left
           ·rintro w' ⟨s0, s1, s2, s3, s4, s5, s6, s7, s8, s9⟩
            go_simp
            with_reducible rfl
           rotate_left
           ·simp only [Act.put, qa_, qz_, qs_, i64_w, i32_w]
            rfl
           refine pure_ (i := 27) (N := some 54) (v := ?_) (a' := ?_) p21_11026 rfl rfl (any_of HT_.out (by kernel_rfl)) (fun _ _ _ h => h) (Or.inl ⟨by rfl, ?_⟩) ?_ ?_
           rotate_left
           ·intro w'
            go_simp
            with_reducible rfl
           rotate_left
           ·simp only [Act.put, qa_, qz_, qs_, i64_w, i32_w]
            rfl
           refine pure_ (i := 28) (N := some 55) (v := ?_) (a' := ?_) p21_11027 rfl rfl (any_of HT_.out (by kernel_rfl)) (fun _ _ _ h => h) (Or.inl ⟨by rfl, ?_⟩) ?_ ?_
           rotate_left
           ·intro w'
            go_simp
            with_reducible rfl
           rotate_left
           ·simp only [Act.put, qa_, qz_, qs_, i64_w, i32_w]
            rfl
           refine take_ (i := 29) (N := some 56) (v := ?_) (a' := ?_) p21_11028 rfl rfl (take_ofW HT_.out HW_.out (by kernel_rfl)) (fun _ _ _ h => h) (Or.inl ⟨by rfl, ?_⟩) hHeld ?_ ?_
           rotate_left
           ·rintro w' ⟨s0, s1, s2, s3, s4, s5, s6, s7, s8, s9⟩
            go_simp
            with_reducible rfl
           rotate_left
           ·simp only [Act.put, qa_, qz_, qs_, i64_w, i32_w]
            rfl
           refine one_ (i := 4) (N := some 31) p21_11029 rfl rfl (one_of HT_.out (by kernel_rfl)) (by decide) (fun K hK => ?_)
           refine goes_ Try.func106 (by kernel_rfl) rfl #[.pointer (some ⟨g0_, 0, none⟩), .slice A1 l1.length c1, .int .i64 x8_2, .int .i64 x7_1] (by rfl) rfl rfl (by (try simp only [List.map_toArray, List.map_cons, List.map_nil]); first | done | rfl) ?_
           with_reducible refine (spec_l08Worn.calls k2 g0_ (some ad550) c0_0 l0_0 (some ad551) c0_1 l0_1 A0_2 c0_2 l0_2 x1003_2 x1004_2 _ _ l1 x8_2 x7_1 t549 _ ?side1 ?side2 ?side3 ?side4 ?side5 ?side6 ?side7 ?side8 ?side9 A6.out).mono ?_
           (case side1 => repeat (first | exact (Kd.C_below HR0_0.out HB.out) | (with_reducible first | refine Kd.C_alloc ?_ _ | refine Kd.C_drewN ?_ _ | refine Kd.C_drew ?_)))
           (case side2 => exact HC0_0.out)
           (case side3 => repeat (first | exact (Kd.C_below HR0_1.out HB.out) | (with_reducible first | refine Kd.C_alloc ?_ _ | refine Kd.C_drewN ?_ _ | refine Kd.C_drew ?_)))
           (case side4 => exact HC0_1.out)
           (case side5 => repeat (first | exact (Kd.C_below HR0_2.out HB.out) | (with_reducible first | refine Kd.C_alloc ?_ _ | refine Kd.C_drewN ?_ _ | refine Kd.C_drew ?_)))
           (case side6 => exact HC0_2.out)
           (case side7 => repeat (first | exact (Kd.C_below HR1.out HB.out) | (with_reducible first | refine Kd.C_alloc ?_ _ | refine Kd.C_drewN ?_ _ | refine Kd.C_drew ?_)))
           (case side8 => exact HC1.out)
           (case side9 => exact (by (with_reducible repeat (first | refine blk_drewN ?_ _ | refine blk_drew ?_ | refine blk_alloc ?_ _)); exact BK0.out))
           rintro e w16 ⟨rfl, hb⟩
           (try (have db_ : ∀ {w w' : World}, Drawn0 w w' → Below w.heap.size w w' := (by intro w w' h_; obtain ⟨n_, rfl⟩ := h_; exact pw_below_drewN (Below.refl _ _) _); replace hb := db_ hb; clear db_))
           refine ⟨_, rfl, ?_⟩
           have n0_ := Aside0.mk (blk_below (g := g0_) (o := .cells #[.slice (some ad550) l0_0.length c0_0, .slice (some ad551) l0_1.length c0_1, .slice A0_2 l0_2.length c0_2, .int .i64 x1003_2, .int .i64 x1004_2] 33 (0, 0)) (by (with_reducible repeat (first | refine blk_drewN ?_ _ | refine blk_drew ?_ | refine blk_alloc ?_ _)); exact BK0.out) hb)
           have n1_ := Aside0.mk (below_step (by repeat (first | (with_reducible first | exact HB.out | apply below_alloc | apply pw_below_drewN | apply below_drew1 | refine below_set ?_ GE0.out) | exact HB.out)) hb)
           clear BK0
           clear HB
           have BK0 := n0_
           have HB := n1_
           clear n0_ n1_
           (try clear hb)
           (try clear hb2)
           (try clear hk)
           (try clear hi)
           refine hK.out _ _ ⟨(blk_cell BK0.out 0).trans rfl, (blk_cell BK0.out 1).trans rfl, (blk_cell BK0.out 2).trans rfl, (blk_cell BK0.out 3).trans rfl, (blk_cell BK0.out 4).trans rfl, ((HB.out.cell (World.block_lt_of_cell? w _ hw550_0)).trans hw550_0), ((HB.out.cell (World.block_lt_of_cell? w _ hw550_1)).trans hw550_1), ((HB.out.cell (World.block_lt_of_cell? w _ hw551_0)).trans hw551_0), ((HB.out.cell (World.block_lt_of_cell? w _ hw552_0)).trans hw552_0), ((HB.out.cell (World.block_lt_of_cell? w _ hw552_1)).trans hw552_1)⟩ (fun hHeld => ?_)
           clear hK K
           refine norm_ (a' := ?_) ?_ ?_
           rotate_left
           ·show Act.put _ (some 31) _ = _
            simp only [Act.put, qa_, qz_, qs_, i64_w, i32_w]
            rfl
           refine pure_ (i := 21) (N := some 48) (v := ?_) (a' := ?_) p21_11030 rfl rfl (any_of HT_.out (by kernel_rfl)) (fun _ _ _ h => h) (Or.inl ⟨by rfl, ?_⟩) ?_ ?_
           rotate_left
           ·intro w'
            go_simp
            with_reducible rfl
           rotate_left
           ·simp only [Act.put, qa_, qz_, qs_, i64_w, i32_w]
            rfl
           refine pure_ (i := 30) (N := some 57) (v := ?_) (a' := ?_) p21_11031 rfl rfl (any_of HT_.out (by kernel_rfl)) (fun _ _ _ h => h) (Or.inl ⟨by rfl, ?_⟩) ?_ ?_
           rotate_left
           ·intro w'
            go_simp
            with_reducible rfl
           rotate_left
           ·simp only [Act.put, qa_, qz_, qs_, i64_w, i32_w]
            rfl
           refine done_ (done_of HT_.out (by kernel_rfl)) ?_
           try go_wp2
           go_roundg k2
           case measure => have := HK1.out; have := HK2.out; omega
           case rel => exact ⟨(wrap64 (x8_2 + 1)), (x1003_2), (x1004_2), (by first | rfl | (simp; done) | (simp [*]; done) | (simp [Int.tdiv_eq_ediv_of_nonneg, *]; done)), H', ⟨by have := HK1.out; have := HK2.out; omega⟩, ⟨by (with_reducible repeat (first | refine blk_drewN ?_ _ | refine blk_drew ?_ | refine blk_alloc ?_ _)); exact BK0.out⟩, ⟨by repeat (first | (with_reducible first | exact HB.out | apply below_alloc | apply pw_below_drewN | apply below_drew1 | refine below_set ?_ GE0.out) | exact HB.out)⟩⟩
         ·rw [if_neg c9] at H
          exact absurd H (by simp)
        ·rw [if_neg c8] at H
         exact absurd H (by simp)
       ·rw [if_neg c7] at H
        exact absurd H (by simp)
      ·rw [if_neg c5] at H
       have c5b0 : decide (x8_2 < (l0_0.length : Int)) = false := decide_eq_false c5
       clear c5
       have H' := Aside0.mk H
       clear H
       have hcz17_0 : wr.cell? ⟨g0_, 0, none⟩ = some (.slice A0_0 l0_0.length c0_0) := (blk_cell BK0.out 0).trans rfl
       have hcz17_1 : wr.cell? ⟨g0_, 1, none⟩ = some (.slice A0_1 l0_1.length c0_1) := (blk_cell BK0.out 1).trans rfl
       have hcz17_2 : wr.cell? ⟨g0_, 2, none⟩ = some (.slice A0_2 l0_2.length c0_2) := (blk_cell BK0.out 2).trans rfl
       have hcz17_3 : wr.cell? ⟨g0_, 3, none⟩ = some (.int .i64 x1003_2) := (blk_cell BK0.out 3).trans rfl
       have hcz17_4 : wr.cell? ⟨g0_, 4, none⟩ = some (.int .i64 x1004_2) := (blk_cell BK0.out 4).trans rfl
       have hfz17_0 := blk_frozen BK0.out 0
       have hfz17_1 := blk_frozen BK0.out 1
       have hfz17_2 := blk_frozen BK0.out 2
       have hfz17_3 := blk_frozen BK0.out 3
       have hfz17_4 := blk_frozen BK0.out 4
       go_wp2
       go_roundg k2
       case measure => have := HK1.out; have := HK2.out; omega
       case rel => exact ⟨(wrap64 (x7_1 + 1)), (x1003_2), (x1004_2), (by first | rfl | (simp; done) | (simp [*]; done) | (simp [Int.tdiv_eq_ediv_of_nonneg, *]; done)), H', ⟨by have := HK1.out; have := HK2.out; omega⟩, ⟨by (with_reducible repeat (first | refine blk_drewN ?_ _ | refine blk_drew ?_ | refine blk_alloc ?_ _)); exact BK0.out⟩, ⟨by repeat (first | (with_reducible first | exact HB.out | apply below_alloc | apply pw_below_drewN | apply below_drew1 | refine below_set ?_ GE0.out) | exact HB.out)⟩⟩
   ·rw [if_neg c3] at H
    have c3b0 : decide (x7_1 < (l0_1.length : Int)) = false := decide_eq_false c3
    clear c3
    simp only [Option.some.injEq, Prod.mk.injEq] at H
    obtain ⟨rfl, rfl, rfl⟩ := H
    have hcz18_0 : wr.cell? ⟨g0_, 0, none⟩ = some (.slice A0_0 l0_0.length c0_0) := (blk_cell BK0.out 0).trans rfl
    have hcz18_1 : wr.cell? ⟨g0_, 1, none⟩ = some (.slice A0_1 l0_1.length c0_1) := (blk_cell BK0.out 1).trans rfl
    have hcz18_2 : wr.cell? ⟨g0_, 2, none⟩ = some (.slice A0_2 l0_2.length c0_2) := (blk_cell BK0.out 2).trans rfl
    have hcz18_3 : wr.cell? ⟨g0_, 3, none⟩ = some (.int .i64 x1003_1) := (blk_cell BK0.out 3).trans rfl
    have hcz18_4 : wr.cell? ⟨g0_, 4, none⟩ = some (.int .i64 x1004_1) := (blk_cell BK0.out 4).trans rfl
    have hfz18_0 := blk_frozen BK0.out 0
    have hfz18_1 := blk_frozen BK0.out 1
    have hfz18_2 := blk_frozen BK0.out 2
    have hfz18_3 := blk_frozen BK0.out 3
    have hfz18_4 := blk_frozen BK0.out 4
    go_wp2
    go_ret3
    exact ⟨by first | rfl | (simp [errW_none, errW_some] <;> rfl) | (simp [*, errW_none, errW_some] <;> rfl) | (simp [Int.tdiv_eq_ediv_of_nonneg, *]; done), by repeat (first | (with_reducible first | exact HB.out | apply below_alloc | apply pw_below_drewN | apply below_drew1 | refine below_set ?_ GE0.out) | exact HB.out)⟩

end Go.Proofs.Ytagmaflnnaonjaa.P
namespace Go.Proofs.Ytagmaflnnaonjaa.P
open Go.RowKit Go.Proofs.YtagmaflnnaonjaaW.PrintWords Go.Proofs.YtagmaflnnaonjaaW.PrintLast Go.Proofs.YtagmaflnnaonjaaW.PrintMore
attribute [local go_sem] max2_int min2_int max_two min_two max_three min_three max_four min_four   -- for this text's walks alone

mutual
def impl_Head_worn.l0 : Nat → List (S106) → Int → List Int → Int → List (S154) → List Int → List Int → Int → Int → Option (List Int)
 | 0, _, _, _, _, _, _, _, _, _ => none
 | k + 1, x1, x2, x7, x8, x561000, x561001, x561002, x561003, x561004 => if x8 ≤ x2 then (impl_Head_worn.l1 k x1 x2 x7 x8 x1 (x1.length : Int) 0 x561000 x561001 x561002 x561003 x561004) else (some x7)
def impl_Head_worn.l1 : Nat → List (S106) → Int → List Int → Int → List (S106) → Int → Int → List (S154) → List Int → List Int → Int → Int → Option (List Int)
 | 0, _, _, _, _, _, _, _, _, _, _, _, _ => none
 | k + 1, x1, x2, x7, x8, x24, x25, x26, x561000, x561001, x561002, x561003, x561004 => if x26 < x25 then (if 0 ≤ x26 then (if x26 < (x24.length : Int) then (if ((rd_T106 x24 x26).f0) = x8 then (impl_Head_worn.l2 k x1 x2 x7 x8 x24 x25 x26 ((rd_T106 x24 x26).f1) (((rd_T106 x24 x26).f1).length : Int) 0 x561000 x561001 x561002 x561003 x561004) else (impl_Head_worn.l1 k x1 x2 x7 x8 x24 x25 (wrap64 (x26 + 1)) x561000 x561001 x561002 x561003 x561004)) else (none)) else (none)) else (impl_Head_worn.l3 k x1 x2 x7 x8 x561000 (x561000.length : Int) 0 x561000 x561001 x561002 x561003 x561004)
def impl_Head_worn.l2 : Nat → List (S106) → Int → List Int → Int → List (S106) → Int → Int → List Int → Int → Int → List (S154) → List Int → List Int → Int → Int → Option (List Int)
 | 0, _, _, _, _, _, _, _, _, _, _, _, _, _, _, _ => none
 | k + 1, x1, x2, x7, x8, x24, x25, x26, x35, x36, x37, x561000, x561001, x561002, x561003, x561004 => if x37 < x36 then (if 0 ≤ x37 then (if x37 < (x35.length : Int) then (if 0 ≤ (rd x35 x37) then (if (rd x35 x37) < (x7.length : Int) then (impl_Head_worn.l2 k x1 x2 (x7.set ((rd x35 x37) : Int).toNat 0) x8 x24 x25 x26 x35 x36 (wrap64 (x37 + 1)) x561000 x561001 x561002 x561003 x561004) else (none)) else (none)) else (none)) else (none)) else (impl_Head_worn.l1 k x1 x2 x7 x8 x24 x25 (wrap64 (x26 + 1)) x561000 x561001 x561002 x561003 x561004)
def impl_Head_worn.l3 : Nat → List (S106) → Int → List Int → Int → List (S154) → Int → Int → List (S154) → List Int → List Int → Int → Int → Option (List Int)
 | 0, _, _, _, _, _, _, _, _, _, _, _, _ => none
 | k + 1, x1, x2, x7, x8, x47, x48, x49, x561000, x561001, x561002, x561003, x561004 => if x49 < x48 then (if 0 ≤ x49 then (if x49 < (x47.length : Int) then (if x8 < x2 then (if x49 < (x7.length : Int) then (if 0 ≤ x8 then (if x8 < (x561001.length : Int) then (impl_Head_worn.l3 k x1 x2 (x7.set (x49 : Int).toNat (wrap64 ((rd x7 x49) + (wrap64 (((rd_T154 x47 x49).f0) * (rd x561001 x8)))))) x8 x47 x48 (wrap64 (x49 + 1)) x561000 x561001 x561002 x561003 x561004) else (none)) else (none)) else (none)) else (impl_Head_worn.l3 k x1 x2 x7 x8 x47 x48 (wrap64 (x49 + 1)) x561000 x561001 x561002 x561003 x561004)) else (none)) else (none)) else (impl_Head_worn.l0 k x1 x2 x7 (wrap64 (x8 + 1)) x561000 x561001 x561002 x561003 x561004)
end
def impl_Head_worn.f (k : Nat) (l0_0 : List (S154)) (l0_1 : List Int) (l0_2 : List Int) (a0_3 : Int) (a0_4 : Int) (l1 : List (S106)) (a2 : Int) : Option (List Int) := if 0 ≤ (l0_0.length : Int) then (if ((l0_0.length : Int) : Int).toNat ≤ 35184372088832 then (impl_Head_worn.l0 k l1 a2 (List.replicate ((l0_0.length : Int) : Int).toNat 0) 0 l0_0 l0_1 l0_2 a0_3 a0_4) else (none)) else (none)
def impl_Head_worn.T19 : Bool × List (List Nat × List Nat) := (true, [([], []), ([], []), ([0, 1], [0, 1]), ([2], [2]), ([], []), ([4], [4]), ([], []), ([6], [6]), ([], []), ([7, 8], [7, 8]), ([9], [9]), ([5, 10], [5, 10]), ([3, 11], [3, 11]), ([0, 1, 0, 1, 2, 3, 4, 5, 6, 7, 8, 9, 10, 11, 12], [0, 1]), ([13, 12, 0, 1, 2, 3, 4, 5, 6, 7, 8, 9, 10, 11, 12], [12, 13])])
def impl_Head_worn.B19 : List Nat := [0, 0, 3, 7, 0, 16, 0, 64, 0, 448, 960, 2032, 4095, 8191, 16383]
theorem impl_Head_worn.tab19 : rtab .any (opsOf Try.f107 19) = impl_Head_worn.T19 := by kernel_rfl
theorem impl_Head_worn.bits19 : waitsOk impl_Head_worn.T19.2 impl_Head_worn.B19 = true := by kernel_rfl
abbrev p16_10000 : Array Bool := #[false, false, false, false, false, false, false, false, false, false, false, false, false, false, false]
abbrev p16_10001 : Array Bool := #[true, false, false, false, false, false, false, false, false, false, false, false, false, false, false]
abbrev p16_10002 : Array Bool := #[true, true, false, false, false, false, false, false, false, false, false, false, false, false, false]
abbrev p16_10003 : Array Bool := #[true, true, true, false, false, false, false, false, false, false, false, false, false, false, false]
abbrev p16_10004 : Array Bool := #[true, true, true, false, true, false, false, false, false, false, false, false, false, false, false]
abbrev p16_10005 : Array Bool := #[true, true, true, false, true, false, true, false, false, false, false, false, false, false, false]
abbrev p16_10006 : Array Bool := #[true, true, true, false, true, false, true, false, true, false, false, false, false, false, false]
abbrev p16_10007 : Array Bool := #[true, true, true, true, true, false, true, false, true, false, false, false, false, false, false]
abbrev p16_10008 : Array Bool := #[true, true, true, true, true, true, true, false, true, false, false, false, false, false, false]
abbrev p16_10009 : Array Bool := #[true, true, true, true, true, true, true, true, true, false, false, false, false, false, false]
abbrev p16_10010 : Array Bool := #[true, true, true, true, true, true, true, true, true, true, false, false, false, false, false]
abbrev p16_10011 : Array Bool := #[true, true, true, true, true, true, true, true, true, true, true, false, false, false, false]
abbrev p16_10012 : Array Bool := #[true, true, true, true, true, true, true, true, true, true, true, true, false, false, false]
abbrev p16_10013 : Array Bool := #[true, true, true, true, true, true, true, true, true, true, true, true, true, false, false]
abbrev p16_10014 : Array Bool := #[true, true, true, true, true, true, true, true, true, true, true, true, true, true, false]
abbrev p16_10015 : Array Bool := #[true, true, true, true, true, true, true, true, true, true, true, true, true, true, true]
set_option maxHeartbeats 8000000 in
set_option maxRecDepth 100000 in
theorem impl_Head_worn.calls (k : Nat) (A0_0 : Option Addr) (c0_0 : Nat) (l0_0 : List (S154)) (A0_1 : Option Addr) (c0_1 : Nat) (l0_1 : List Int) (A0_2 : Option Addr) (c0_2 : Nat) (l0_2 : List Int) (a0_3 : Int) (a0_4 : Int) (A1 : Option Addr) (c1 : Nat) (l1 : List (S106)) (a2 : Int) (r : List Int) (w : World) (hr0_0 : Kd.C k154 w A0_0 l0_0.length l0_0) (hc0_0 : l0_0.length ≤ c0_0) (hr0_1 : Kd.C (Kd.int .i64) w A0_1 l0_1.length l0_1) (hc0_1 : l0_1.length ≤ c0_1) (hr0_2 : Kd.C (Kd.int .i64) w A0_2 l0_2.length l0_2) (hc0_2 : l0_2.length ≤ c0_2) (hr1 : Kd.C k106 w A1 l1.length l1) (hc1 : l1.length ≤ c1) (h : impl_Head_worn.f k l0_0 l0_1 l0_2 a0_3 a0_4 l1 a2 = some r) :
  Calls Try.prog 107 #[.agg #[.slice A0_0 l0_0.length c0_0, .slice A0_1 l0_1.length c0_1, .slice A0_2 l0_2.length c0_2, .int .i64 a0_3, .int .i64 a0_4], .slice A1 l1.length c1, .int .i64 a2] w fun e w' => ∃ v0_ : Value, e = .returned (v0_) ∧ Kd.R (Kd.int .i64) 2 w' w.heap.size (fun _ => True) v0_ r ∧ Below w.heap.size w w' := by
 have hu33 := Try.underlying33
 have hu106 := Try.underlying106
 have hu154 := Try.underlying154
 have HR0_0 := Aside0.mk hr0_0
 have HC0_0 := Aside0.mk hc0_0
 clear hr0_0 hc0_0
 have HR0_1 := Aside0.mk hr0_1
 have HC0_1 := Aside0.mk hc0_1
 clear hr0_1 hc0_1
 have HR0_2 := Aside0.mk hr0_2
 have HC0_2 := Aside0.mk hc0_2
 clear hr0_2 hc0_2
 have HR1 := Aside0.mk hr1
 have HC1 := Aside0.mk hc1
 clear hr1 hc1
 have HB := Aside0.mk (Below.refl w.heap.size w)
 have H : (if 0 ≤ (l0_0.length : Int) then (if ((l0_0.length : Int) : Int).toNat ≤ 35184372088832 then (impl_Head_worn.l0 k l1 a2 (List.replicate ((l0_0.length : Int) : Int).toNat 0) 0 l0_0 l0_1 l0_2 a0_3 a0_4) else (none)) else (none)) = some r := h
 clear h
 by_cases c4 : 0 ≤ (l0_0.length : Int)
 ·rw [if_pos c4] at H
  have c4b0 := eq_true c4
  have c4b1 : decide (0 ≤ (l0_0.length : Int)) = true := decide_eq_true c4
  clear c4
  by_cases c5 : ((l0_0.length : Int) : Int).toNat ≤ 35184372088832
  ·rw [if_pos c5] at H
   have c5b0 := eq_true c5
   have c5b1 : decide (((l0_0.length : Int) : Int).toNat ≤ 35184372088832) = true := decide_eq_true c5
   clear c5
   obtain ⟨y561, hy561⟩ : ∃ y_ : List Int, y_ = (List.replicate ((l0_0.length : Int) : Int).toNat 0) := ⟨_, rfl⟩
   replace H : (impl_Head_worn.l0 k l1 a2 y561 0 l0_0 l0_1 l0_2 a0_3 a0_4) = some r := by first | (rw [hy561]; with_reducible exact H) | (have H2_ := (Option.bind_some _ _).symm.trans H; rw [hy561]; with_reducible exact H2_) | (have H2_ := (Option.bind_some _ _).symm.trans H; with_reducible exact H2_) | with_reducible exact H | (rw [hy561]; exact H) | exact H
   have Ny561 := Aside0.mk hy561
   clear hy561
   have H' := Aside0.mk H
   clear H
   go_enter Try.func107, Try.ntmps107
   go_wp2_with (first | ((with_reducible refine gate_dst (N := 3) rfl ?_); refine box_event ?hg (N := 3) ?hd (cs := #[.slice A0_0 l0_0.length c0_0, .slice A0_1 l0_1.length c0_1, .slice A0_2 l0_2.length c0_2, .int .i64 a0_3, .int .i64 a0_4]) (t := 33) ?hr ?_; (case hd => rfl); (case hg => rfl); (case hr => first | (go_simp; done) | (go_simp; rfl)); intro gb560 hg w6 hbox hb; have n0_ := Aside0.mk (below_step (by repeat (first | (with_reducible first | exact HB.out | apply below_alloc | apply pw_below_drewN | apply below_drew1) | exact HB.out)) hb); have n1_ := Aside0.mk (hbox); have n2_ := Aside0.mk ((by rw [hg]; exact (below_size (by repeat (first | (with_reducible first | exact HB.out | apply below_alloc | apply pw_below_drewN | apply below_drew1) | exact HB.out))) : w.heap.size ≤ gb560)); have n3_ := Aside0.mk ((by rw [hg]; exact (below_size (by repeat (first | (with_reducible first | exact HB.out | apply below_alloc | apply pw_below_drewN | apply below_drew1) | exact HB.out))) : w.heap.size ≤ gb560)); clear HB; have HB := n0_; have BK560 := n1_; have GW560 := n2_; have GE560 := n3_; clear n0_ n1_ n2_ n3_; clear hb hbox hg; have hcz7_0 : w6.cell? ⟨gb560, 0, none⟩ = some (.slice A0_0 l0_0.length c0_0) := (blk_cell BK560.out 0).trans rfl; have hcz7_1 : w6.cell? ⟨gb560, 1, none⟩ = some (.slice A0_1 l0_1.length c0_1) := (blk_cell BK560.out 1).trans rfl; have hcz7_2 : w6.cell? ⟨gb560, 2, none⟩ = some (.slice A0_2 l0_2.length c0_2) := (blk_cell BK560.out 2).trans rfl; have hcz7_3 : w6.cell? ⟨gb560, 3, none⟩ = some (.int .i64 a0_3) := (blk_cell BK560.out 3).trans rfl; have hcz7_4 : w6.cell? ⟨gb560, 4, none⟩ = some (.int .i64 a0_4) := (blk_cell BK560.out 4).trans rfl; have hfz7_0 := blk_frozen BK560.out 0; have hfz7_1 := blk_frozen BK560.out 1; have hfz7_2 := blk_frozen BK560.out 2; have hfz7_3 := blk_frozen BK560.out 3; have hfz7_4 := blk_frozen BK560.out 4) | ((with_reducible refine gate_dst (N := 18) rfl ?_); refine Kd.R_make (Kd.int .i64) _ 2 rfl (N := 18) rfl 23 _ _ rfl (l0_0.length : Int) rfl rfl Try.underlying23 (.int .i64 0) 8 info2 rfl (by decide) (by omega) 0 (ok := fun _ => True) (okp := fun _ => True) rfl (fun _ hk => hk) trivial (of_decide_eq_true (by assumption)) (Nat.le_trans (Nat.mul_le_mul_right _ (of_decide_eq_true (by assumption) : (l0_0.length : Int).toNat ≤ 35184372088832)) (by omega)) (Below.refl _ _) (Nat.le_refl _) ?_; intro v562 w8 ho9 hb hg_ hnew_; clear hg_ hnew_; (first | rw [← Ny561.out] at ho9 | (simp only [Int.reduceToNat] at ho9; rw [← Ny561.out] at ho9)); have n0_ := Aside0.mk (Kd.R_lower ho9 (below_size (by repeat (first | (with_reducible first | exact HB.out | apply below_alloc | apply pw_below_drewN | apply below_drew1 | refine below_set ?_ GE560.out) | exact HB.out)))); have n1_ := Aside0.mk (blk_below (g := gb560) (o := .cells #[.slice A0_0 l0_0.length c0_0, .slice A0_1 l0_1.length c0_1, .slice A0_2 l0_2.length c0_2, .int .i64 a0_3, .int .i64 a0_4] 33 (0, 0)) (by (with_reducible repeat (first | refine blk_drewN ?_ _ | refine blk_drew ?_ | refine blk_alloc ?_ _)); exact BK560.out) hb); have n2_ := Aside0.mk (below_step (by repeat (first | (with_reducible first | exact HB.out | apply below_alloc | apply pw_below_drewN | apply below_drew1 | refine below_set ?_ GE560.out) | exact HB.out)) hb); clear BK560; clear HB; have HO563 := n0_; have BK560 := n1_; have HB := n2_; clear n0_ n1_ n2_; clear hb ho9))
   go_loopg [8] k (fun kq v8 w' => ∃ (x7_1 : List Int) (x8_1 : Int), v8 = .int .i64 x8_1 ∧ Aside0 (impl_Head_worn.l0 kq l1 a2 x7_1 x8_1 l0_0 l0_1 l0_2 a0_3 a0_4 = some r) ∧ Aside0 (kq ≤ k) ∧ Aside0 (Kd.R (Kd.int .i64) 2 w' w.heap.size (fun _ => True) v562 x7_1) ∧ Aside0 (w'.heap[gb560]? = some (.cells #[(.slice A0_0 l0_0.length c0_0), (.slice A0_1 l0_1.length c0_1), (.slice A0_2 l0_2.length c0_2), .int .i64 a0_3, .int .i64 a0_4] 33 (0, 0))) ∧ Aside0 (Below w.heap.size w w'))
   case atStart => exact ⟨(y561), (0), (by first | rfl | (simp; done) | (simp [*]; done) | (simp [Int.tdiv_eq_ediv_of_nonneg, *]; done)), H', ⟨Nat.le_refl _⟩, ⟨by (with_reducible repeat (first | apply Kd.R_alloc | apply Kd.R_drewN | apply Kd.R_drew)); exact HO563.out⟩, ⟨by (with_reducible repeat (first | refine blk_drewN ?_ _ | refine blk_drew ?_ | refine blk_alloc ?_ _)); exact BK560.out⟩, ⟨by repeat (first | (with_reducible first | exact HB.out | apply below_alloc | apply pw_below_drewN | apply below_drew1 | refine below_set ?_ GE560.out) | exact HB.out)⟩⟩
   case round =>
    clear H'
    try clear c1
    try clear p2
    try clear c4
    try clear c4b0
    try clear c4b1
    try clear c5
    try clear c5b0
    try clear c5b1
    try clear hcz7_0
    try clear hcz7_1
    try clear hcz7_2
    try clear hcz7_3
    try clear hcz7_4
    try clear hfz7_0
    try clear hfz7_1
    try clear hfz7_2
    try clear hfz7_3
    try clear hfz7_4
    obtain ⟨x7_1, x8_1, rfl, HA, HK1, HO_7, BK560, HB⟩ := hrel
    cases gk with
    | zero => exact absurd HA.out (by simp [impl_Head_worn.l0])
    | succ k1 =>
     have H := HA.out
     clear HA
     simp only [impl_Head_worn.l0] at H
     by_cases c10 : x8_1 ≤ a2
     ·rw [if_pos c10] at H
      have c10b0 : decide (x8_1 ≤ a2) = true := decide_eq_true c10
      clear c10
      have H' := Aside0.mk H
      clear H
      go_wp2
      go_loopg [26] k1 (fun kq v26 w' => ∃ (x7_2 : List Int) (x26_2 : Int), v26 = .int .i64 x26_2 ∧ Aside0 (impl_Head_worn.l1 kq l1 a2 x7_2 x8_1 l1 (l1.length : Int) x26_2 l0_0 l0_1 l0_2 a0_3 a0_4 = some r) ∧ Aside0 (kq ≤ k1) ∧ Aside0 (Kd.R (Kd.int .i64) 2 w' w.heap.size (fun _ => True) v562 x7_2) ∧ Aside0 (w'.heap[gb560]? = some (.cells #[(.slice A0_0 l0_0.length c0_0), (.slice A0_1 l0_1.length c0_1), (.slice A0_2 l0_2.length c0_2), .int .i64 a0_3, .int .i64 a0_4] 33 (0, 0))) ∧ Aside0 (Below w.heap.size w w'))
      case atStart => exact ⟨(x7_1), (0), (by first | rfl | (simp; done) | (simp [*]; done) | (simp [Int.tdiv_eq_ediv_of_nonneg, *]; done)), H', ⟨Nat.le_refl _⟩, ⟨by (with_reducible repeat (first | apply Kd.R_alloc | apply Kd.R_drewN | apply Kd.R_drew)); exact HO_7.out⟩, ⟨by (with_reducible repeat (first | refine blk_drewN ?_ _ | refine blk_drew ?_ | refine blk_alloc ?_ _)); exact BK560.out⟩, ⟨by repeat (first | (with_reducible first | exact HB.out | apply below_alloc | apply pw_below_drewN | apply below_drew1 | refine below_set ?_ GE560.out) | exact HB.out)⟩⟩
      case round =>
       clear H'
       try clear c1
       try clear p2
       try clear c4
       try clear c4b0
       try clear c4b1
       try clear c5
       try clear c5b0
       try clear c5b1
       try clear c10
       try clear c10b0
       try clear hcz7_0
       try clear hcz7_1
       try clear hcz7_2
       try clear hcz7_3
       try clear hcz7_4
       try clear hfz7_0
       try clear hfz7_1
       try clear hfz7_2
       try clear hfz7_3
       try clear hfz7_4
       try clear p2
       obtain ⟨x7_2, x26_2, rfl, HA, HK2, HO_7, BK560, HB⟩ := hrel
       cases gk with
       | zero => exact absurd HA.out (by simp [impl_Head_worn.l1])
       | succ k2 =>
        have H := HA.out
        clear HA
        simp only [impl_Head_worn.l1] at H
        by_cases c11 : x26_2 < (l1.length : Int)
        ·rw [if_pos c11] at H
         have c11b0 : decide (x26_2 < (l1.length : Int)) = true := decide_eq_true c11
         clear c11
         by_cases c12 : 0 ≤ x26_2
         ·rw [if_pos c12] at H
          have c12b0 : decide (0 ≤ x26_2) = true := decide_eq_true c12
          clear c12
          by_cases c13 : x26_2 < (l1.length : Int)
          ·rw [if_pos c13] at H
           have c13b0 : decide (x26_2 < (l1.length : Int)) = true := decide_eq_true c13
           clear c13
           by_cases c14 : ((rd_T106 l1 x26_2).f0) = x8_1
           ·rw [if_pos c14] at H
            have c14b0 : (((rd_T106 l1 x26_2).f0) == x8_1) = true := beq_iff_eq.mpr c14
            have c14b1 : (((rd_T106 l1 x26_2).f0) != x8_1) = false := bne_eq_false_iff_eq.mpr c14
            clear c14
            have H' := Aside0.mk H
            clear H
            have p564 : 0 ≤ (x26_2 : Int) := of_decide_eq_true (by assumption)
            have q564 : x26_2 < (l1.length : Int) := of_decide_eq_true (by assumption)
            obtain ⟨ad564, A564_1, c564_1, e564, hx564_0, hx564_1, hl564_1, hi564_1⟩ := at_T106 HR1.out x26_2 p564 q564
            cases e564
            replace hx564_0 := (HB.out.cell (World.block_lt_of_cell? w _ hx564_0)).trans hx564_0
            replace hx564_1 := (HB.out.cell (World.block_lt_of_cell? w _ hx564_1)).trans hx564_1
            have HR564_1 := Aside0.mk hi564_1
            have HC564_1 := Aside0.mk hl564_1
            clear hi564_1 hl564_1
            replace p564 := eq_true p564
            replace q564 := eq_true q564
            go_wp2_with (first | ((with_reducible refine gate_dst (N := 10) rfl ?_); refine box_event ?hg (N := 10) ?hd (cs := #[.int .i64 0, .slice none 0 0]) (t := 106) ?hr ?_; (case hd => rfl); (case hg => rfl); (case hr => first | (go_simp; done) | (go_simp; rfl)); intro gb565 hg w15 hbox hb; have n0_ := Aside0.mk (Kd.R_below (by (with_reducible repeat (first | apply Kd.R_alloc | apply Kd.R_drewN | apply Kd.R_drew)); exact HO_7.out) hb); have n1_ := Aside0.mk (blk_below (g := gb560) (o := .cells #[.slice A0_0 l0_0.length c0_0, .slice A0_1 l0_1.length c0_1, .slice A0_2 l0_2.length c0_2, .int .i64 a0_3, .int .i64 a0_4] 33 (0, 0)) (by (with_reducible repeat (first | refine blk_drewN ?_ _ | refine blk_drew ?_ | refine blk_alloc ?_ _)); exact BK560.out) hb); have n2_ := Aside0.mk (below_step (by repeat (first | (with_reducible first | exact HB.out | apply below_alloc | apply pw_below_drewN | apply below_drew1 | refine below_set ?_ GE560.out) | exact HB.out)) hb); have n3_ := Aside0.mk (hbox); have n4_ := Aside0.mk ((by rw [hg]; exact (below_size (by repeat (first | (with_reducible first | exact HB.out | apply below_alloc | apply pw_below_drewN | apply below_drew1 | refine below_set ?_ GE560.out) | exact HB.out))) : w.heap.size ≤ gb565)); have n5_ := Aside0.mk ((by rw [hg]; exact (below_size (by repeat (first | (with_reducible first | exact HB.out | apply below_alloc | apply pw_below_drewN | apply below_drew1 | refine below_set ?_ GE560.out) | exact HB.out))) : w.heap.size ≤ gb565)); have n6_ := Aside0.mk ((by rw [hg]; exact Nat.ne_of_lt (blk_lt (g := gb560) (o := .cells #[.slice A0_0 l0_0.length c0_0, .slice A0_1 l0_1.length c0_1, .slice A0_2 l0_2.length c0_2, .int .i64 a0_3, .int .i64 a0_4] 33 (0, 0)) (by (with_reducible repeat (first | refine blk_drewN ?_ _ | refine blk_drew ?_ | refine blk_alloc ?_ _)); exact BK560.out)) : gb560 ≠ gb565)); have n7_ := Aside0.mk ((by rw [hg]; exact Nat.ne_of_gt (blk_lt (g := gb560) (o := .cells #[.slice A0_0 l0_0.length c0_0, .slice A0_1 l0_1.length c0_1, .slice A0_2 l0_2.length c0_2, .int .i64 a0_3, .int .i64 a0_4] 33 (0, 0)) (by (with_reducible repeat (first | refine blk_drewN ?_ _ | refine blk_drew ?_ | refine blk_alloc ?_ _)); exact BK560.out)) : gb565 ≠ gb560)); clear HO_7; clear BK560; clear HB; have HO_7 := n0_; have BK560 := n1_; have HB := n2_; have BK565 := n3_; have GW565 := n4_; have GE565 := n5_; have NB560_565 := n6_; have NB565_560 := n7_; clear n0_ n1_ n2_ n3_ n4_ n5_ n6_ n7_; clear hb hbox hg; have hnb16 := NB565_560.out; have hnc16 := NB560_565.out; have hcz17_0 : w15.cell? ⟨gb565, 0, none⟩ = some (.int .i64 0) := (blk_cell BK565.out 0).trans rfl; have hcz17_1 : w15.cell? ⟨gb565, 1, none⟩ = some (.slice none 0 0) := (blk_cell BK565.out 1).trans rfl; have hfz17_0 := blk_frozen BK565.out 0; have hfz17_1 := blk_frozen BK565.out 1))
            go_loopg [37] k2 (fun kq v37 w' => ∃ (x7_3 : List Int) (x37_3 : Int), v37 = .int .i64 x37_3 ∧ Aside0 (impl_Head_worn.l2 kq l1 a2 x7_3 x8_1 l1 (l1.length : Int) x26_2 ((rd_T106 l1 x26_2).f1) (((rd_T106 l1 x26_2).f1).length : Int) x37_3 l0_0 l0_1 l0_2 a0_3 a0_4 = some r) ∧ Aside0 (kq ≤ k2) ∧ Aside0 (Kd.R (Kd.int .i64) 2 w' w.heap.size (fun _ => True) v562 x7_3) ∧ Aside0 (w'.heap[gb560]? = some (.cells #[(.slice A0_0 l0_0.length c0_0), (.slice A0_1 l0_1.length c0_1), (.slice A0_2 l0_2.length c0_2), .int .i64 a0_3, .int .i64 a0_4] 33 (0, 0))) ∧ Aside0 (w'.heap[gb565]? = some (.cells #[.int .i64 ((rd_T106 l1 x26_2).f0), (.slice A564_1 ((rd_T106 l1 x26_2).f1).length c564_1)] 106 (0, 0))) ∧ Aside0 (Below w.heap.size w w'))
            case atStart => exact ⟨(x7_2), (0), (by first | rfl | (simp; done) | (simp [*]; done) | (simp [Int.tdiv_eq_ediv_of_nonneg, *]; done)), H', ⟨Nat.le_refl _⟩, ⟨by (with_reducible repeat (first | apply Kd.R_alloc | apply Kd.R_drewN | apply Kd.R_drew)); exact Kd.R_mono (Kd.R_far (p := ⟨gb565, 1, none⟩) (Kd.R_far (p := ⟨gb565, 0, none⟩) (Kd.R_types HO_7.out BK565.out (by decide)) (fun _ hk => hk.2) (.int .i64 ((rd_T106 l1 x26_2).f0))) (fun _ hk => hk.2) (.slice A564_1 ((rd_T106 l1 x26_2).f1).length c564_1)) (fun _ hk => trivial)⟩, ⟨by (with_reducible repeat (first | refine blk_drewN ?_ _ | refine blk_drew ?_ | refine blk_alloc ?_ _)); refine blk_far ?_ NB560_565.out _; (with_reducible repeat (first | refine blk_drewN ?_ _ | refine blk_drew ?_ | refine blk_alloc ?_ _)); refine blk_far ?_ NB560_565.out _; (with_reducible repeat (first | refine blk_drewN ?_ _ | refine blk_drew ?_ | refine blk_alloc ?_ _)); exact BK560.out⟩, ⟨by (with_reducible repeat (first | refine blk_drewN ?_ _ | refine blk_drew ?_ | refine blk_alloc ?_ _)); refine blk_put (cs := #[.int .i64 ((rd_T106 l1 x26_2).f0), .slice none 0 0]) ?_ 1 _ rfl; (with_reducible repeat (first | refine blk_drewN ?_ _ | refine blk_drew ?_ | refine blk_alloc ?_ _)); refine blk_put (cs := #[.int .i64 0, .slice none 0 0]) ?_ 0 _ rfl; (with_reducible repeat (first | refine blk_drewN ?_ _ | refine blk_drew ?_ | refine blk_alloc ?_ _)); exact BK565.out⟩, ⟨by repeat (first | (with_reducible first | exact HB.out | apply below_alloc | apply pw_below_drewN | apply below_drew1 | refine below_set ?_ GE560.out | refine below_set ?_ GE565.out) | exact HB.out)⟩⟩
            case round =>
             clear H'
             try clear c1
             try clear p2
             try clear c4
             try clear c4b0
             try clear c4b1
             try clear c5
             try clear c5b0
             try clear c5b1
             try clear p5
             try clear q5
             try clear hx5
             try clear c10
             try clear c10b0
             try clear c11
             try clear c11b0
             try clear c12
             try clear c12b0
             try clear c13
             try clear c13b0
             try clear c14
             try clear c14b0
             try clear c14b1
             try clear c16
             try clear hcz17_0
             try clear hcz17_1
             try clear hcz7_0
             try clear hcz7_1
             try clear hcz7_2
             try clear hcz7_3
             try clear hcz7_4
             try clear hfz17_0
             try clear hfz17_1
             try clear hfz7_0
             try clear hfz7_1
             try clear hfz7_2
             try clear hfz7_3
             try clear hfz7_4
             try clear hx564_0
             try clear hx564_1
             try clear p2
             try clear p564
             try clear q564
             obtain ⟨x7_3, x37_3, rfl, HA, HK3, HO_7, BK560, BK565, HB⟩ := hrel
             cases gk with
             | zero => exact absurd HA.out (by simp [impl_Head_worn.l2])
             | succ k3 =>
              have H := HA.out
              clear HA
              simp only [impl_Head_worn.l2] at H
              by_cases c18 : x37_3 < (((rd_T106 l1 x26_2).f1).length : Int)
              ·rw [if_pos c18] at H
               have c18b0 : decide (x37_3 < (((rd_T106 l1 x26_2).f1).length : Int)) = true := decide_eq_true c18
               clear c18
               by_cases c19 : 0 ≤ x37_3
               ·rw [if_pos c19] at H
                have c19b0 : decide (0 ≤ x37_3) = true := decide_eq_true c19
                clear c19
                by_cases c20 : x37_3 < (((rd_T106 l1 x26_2).f1).length : Int)
                ·rw [if_pos c20] at H
                 have c20b0 : decide (x37_3 < (((rd_T106 l1 x26_2).f1).length : Int)) = true := decide_eq_true c20
                 clear c20
                 by_cases c21 : 0 ≤ (rd ((rd_T106 l1 x26_2).f1) x37_3)
                 ·rw [if_pos c21] at H
                  have c21b0 : decide (0 ≤ (rd ((rd_T106 l1 x26_2).f1) x37_3)) = true := decide_eq_true c21
                  clear c21
                  by_cases c22 : (rd ((rd_T106 l1 x26_2).f1) x37_3) < (x7_3.length : Int)
                  ·rw [if_pos c22] at H
                   have c22b0 : decide ((rd ((rd_T106 l1 x26_2).f1) x37_3) < (x7_3.length : Int)) = true := decide_eq_true c22
                   clear c22
                   obtain ⟨y567, hy567⟩ : ∃ y_ : List Int, y_ = (x7_3.set ((rd ((rd_T106 l1 x26_2).f1) x37_3) : Int).toNat 0) := ⟨_, rfl⟩
                   replace H : (impl_Head_worn.l2 k3 l1 a2 y567 x8_1 l1 (l1.length : Int) x26_2 ((rd_T106 l1 x26_2).f1) (((rd_T106 l1 x26_2).f1).length : Int) (wrap64 (x37_3 + 1)) l0_0 l0_1 l0_2 a0_3 a0_4) = some r := by first | (rw [hy567]; with_reducible exact H) | (have H2_ := (Option.bind_some _ _).symm.trans H; rw [hy567]; with_reducible exact H2_) | (have H2_ := (Option.bind_some _ _).symm.trans H; with_reducible exact H2_) | with_reducible exact H | (rw [hy567]; exact H) | exact H
                   have Ny567 := Aside0.mk hy567
                   clear hy567
                   have H' := Aside0.mk H
                   clear H
                   have p566 : 0 ≤ (x37_3 : Int) := of_decide_eq_true (by assumption)
                   have q566 : x37_3 < (((rd_T106 l1 x26_2).f1).length : Int) := of_decide_eq_true (by assumption)
                   obtain ⟨ad566, e566, hx566_0⟩ := Kd.at_int HR564_1.out x37_3 p566 q566
                   cases e566
                   replace hx566_0 := (HB.out.cell (World.block_lt_of_cell? w _ hx566_0)).trans hx566_0
                   replace p566 := eq_true p566
                   replace q566 := eq_true q566
                   have p23 : 0 ≤ ((rd ((rd_T106 l1 x26_2).f1) x37_3) : Int) := of_decide_eq_true (by assumption)
                   have q23 : ((rd ((rd_T106 l1 x26_2).f1) x37_3) : Int) < ((x7_3.length : Int) : Int) := of_decide_eq_true (by assumption)
                   obtain ⟨go23, co23, eo23, gb23, gl23, cl23, HG23⟩ := Kd.R_form HO_7.out (by omega)
                   (first | cases eo23 | (injection eo23 with ea_ en_ ec_; (first | subst ea_ | (injection ea_ with ea_; subst ea_)); subst ec_; clear en_))
                   have GB23 := Aside0.mk gb23
                   have GG23 := Aside0.mk HG23
                   clear gb23 gl23 HG23
                   obtain ⟨hx23_0, hf23_0⟩ := Kd.R_celln 0 HO_7.out ((rd ((rd_T106 l1 x26_2).f1) x37_3) : Int) p23 q23
                   replace p23 := eq_true p23
                   replace q23 := eq_true q23
                   have HP24 := Kd.R_putg HO_7.out ((rd ((rd_T106 l1 x26_2).f1) x37_3) : Int) 0
                   go_wp2_with (first | ((with_reducible refine gate_store (t := 2) (p := 43) rfl ?_); refine store_event (t := 2) (p := 43) (v := ?vo_w25) (w1 := (wr.setCell ⟨go23, ((rd ((rd_T106 l1 x26_2).f1) x37_3) : Int).toNat, none⟩ (.int .i64 0))) ?hg ?ho ?hn ?hr ?_; (case ho => rfl); (case hg => rfl); (case hn => rfl); (case hr => first | (go_simp; done) | (go_simp; rfl)); intro w25 hw; have hg : wr.grownBy w25 (some go23) := (by rw [hw]; exact HP24.2); have hp_ : Kd.R (Kd.int .i64) 2 w25 w.heap.size (fun _ => True) (.slice (some ⟨go23, 0, none⟩) x7_3.length co23) y567 := (by rw [hw, Ny567.out]; exact HP24.1); clear HP24; have n0_ := Aside0.mk (hp_); have n1_ := Aside0.mk (blk_grown (g := gb560) (o := .cells #[.slice A0_0 l0_0.length c0_0, .slice A0_1 l0_1.length c0_1, .slice A0_2 l0_2.length c0_2, .int .i64 a0_3, .int .i64 a0_4] 33 (0, 0)) (by (with_reducible repeat (first | refine blk_drewN ?_ _ | refine blk_drew ?_ | refine blk_alloc ?_ _)); exact BK560.out) hg (Kd.R_ne HO_7.out BK560.out (by decide))); have n2_ := Aside0.mk (blk_grown (g := gb565) (o := .cells #[.int .i64 ((rd_T106 l1 x26_2).f0), .slice (some ad566) ((rd_T106 l1 x26_2).f1).length c564_1] 106 (0, 0)) (by (with_reducible repeat (first | refine blk_drewN ?_ _ | refine blk_drew ?_ | refine blk_alloc ?_ _)); exact BK565.out) hg (Kd.R_ne HO_7.out BK565.out (by decide))); have n3_ := Aside0.mk ((by rw [hw]; exact below_set (HB.out) GB23.out : Below w.heap.size w w25)); clear HO_7; clear BK560; clear BK565; clear HB; have HO_7 := n0_; have BK560 := n1_; have BK565 := n2_; have HB := n3_; clear n0_ n1_ n2_ n3_; clear hg hw hp_))
                   go_roundg k3
                   case measure => have := HK1.out; have := HK2.out; have := HK3.out; omega
                   case rel => exact ⟨(y567), (wrap64 (x37_3 + 1)), (by first | rfl | (simp; done) | (simp [*]; done) | (simp [Int.tdiv_eq_ediv_of_nonneg, *]; done)), H', ⟨by have := HK1.out; have := HK2.out; have := HK3.out; omega⟩, ⟨by (with_reducible repeat (first | apply Kd.R_alloc | apply Kd.R_drewN | apply Kd.R_drew)); exact HO_7.out⟩, ⟨by (with_reducible repeat (first | refine blk_drewN ?_ _ | refine blk_drew ?_ | refine blk_alloc ?_ _)); exact BK560.out⟩, ⟨by (with_reducible repeat (first | refine blk_drewN ?_ _ | refine blk_drew ?_ | refine blk_alloc ?_ _)); exact BK565.out⟩, ⟨by repeat (first | (with_reducible first | exact HB.out | apply below_alloc | apply pw_below_drewN | apply below_drew1 | refine below_set ?_ GE560.out | refine below_set ?_ GE565.out) | exact HB.out)⟩⟩
                  ·rw [if_neg c22] at H
                   exact absurd H (by simp)
                 ·rw [if_neg c21] at H
                  exact absurd H (by simp)
                ·rw [if_neg c20] at H
                 exact absurd H (by simp)
               ·rw [if_neg c19] at H
                exact absurd H (by simp)
              ·rw [if_neg c18] at H
               have c18b0 : decide (x37_3 < (((rd_T106 l1 x26_2).f1).length : Int)) = false := decide_eq_false c18
               clear c18
               have H' := Aside0.mk H
               clear H
               go_wp2
               go_roundg k3
               case measure => have := HK1.out; have := HK2.out; have := HK3.out; omega
               case rel => exact ⟨(x7_3), (wrap64 (x26_2 + 1)), (by first | rfl | (simp; done) | (simp [*]; done) | (simp [Int.tdiv_eq_ediv_of_nonneg, *]; done)), H', ⟨by have := HK1.out; have := HK2.out; have := HK3.out; omega⟩, ⟨by (with_reducible repeat (first | apply Kd.R_alloc | apply Kd.R_drewN | apply Kd.R_drew)); exact HO_7.out⟩, ⟨by (with_reducible repeat (first | refine blk_drewN ?_ _ | refine blk_drew ?_ | refine blk_alloc ?_ _)); exact BK560.out⟩, ⟨by repeat (first | (with_reducible first | exact HB.out | apply below_alloc | apply pw_below_drewN | apply below_drew1 | refine below_set ?_ GE560.out | refine below_set ?_ GE565.out) | exact HB.out)⟩⟩
           ·rw [if_neg c14] at H
            have c14b0 : (((rd_T106 l1 x26_2).f0) == x8_1) = false := beq_eq_false_iff_ne.mpr c14
            have c14b1 : (((rd_T106 l1 x26_2).f0) != x8_1) = true := bne_iff_ne.mpr c14
            have H' := Aside0.mk H
            clear H
            have p564 : 0 ≤ (x26_2 : Int) := of_decide_eq_true (by assumption)
            have q564 : x26_2 < (l1.length : Int) := of_decide_eq_true (by assumption)
            obtain ⟨ad564, A564_1, c564_1, e564, hx564_0, hx564_1, hl564_1, hi564_1⟩ := at_T106 HR1.out x26_2 p564 q564
            cases e564
            replace hx564_0 := (HB.out.cell (World.block_lt_of_cell? w _ hx564_0)).trans hx564_0
            replace hx564_1 := (HB.out.cell (World.block_lt_of_cell? w _ hx564_1)).trans hx564_1
            have HR564_1 := Aside0.mk hi564_1
            have HC564_1 := Aside0.mk hl564_1
            clear hi564_1 hl564_1
            replace p564 := eq_true p564
            replace q564 := eq_true q564
            go_wp2_with (first | ((with_reducible refine gate_dst (N := 10) rfl ?_); refine box_event ?hg (N := 10) ?hd (cs := #[.int .i64 0, .slice none 0 0]) (t := 106) ?hr ?_; (case hd => rfl); (case hg => rfl); (case hr => first | (go_simp; done) | (go_simp; rfl)); intro gb565 hg w26 hbox hb; have n0_ := Aside0.mk (Kd.R_below (by (with_reducible repeat (first | apply Kd.R_alloc | apply Kd.R_drewN | apply Kd.R_drew)); exact HO_7.out) hb); have n1_ := Aside0.mk (blk_below (g := gb560) (o := .cells #[.slice A0_0 l0_0.length c0_0, .slice A0_1 l0_1.length c0_1, .slice A0_2 l0_2.length c0_2, .int .i64 a0_3, .int .i64 a0_4] 33 (0, 0)) (by (with_reducible repeat (first | refine blk_drewN ?_ _ | refine blk_drew ?_ | refine blk_alloc ?_ _)); exact BK560.out) hb); have n2_ := Aside0.mk (below_step (by repeat (first | (with_reducible first | exact HB.out | apply below_alloc | apply pw_below_drewN | apply below_drew1 | refine below_set ?_ GE560.out) | exact HB.out)) hb); have n3_ := Aside0.mk (hbox); have n4_ := Aside0.mk ((by rw [hg]; exact (below_size (by repeat (first | (with_reducible first | exact HB.out | apply below_alloc | apply pw_below_drewN | apply below_drew1 | refine below_set ?_ GE560.out) | exact HB.out))) : w.heap.size ≤ gb565)); have n5_ := Aside0.mk ((by rw [hg]; exact (below_size (by repeat (first | (with_reducible first | exact HB.out | apply below_alloc | apply pw_below_drewN | apply below_drew1 | refine below_set ?_ GE560.out) | exact HB.out))) : w.heap.size ≤ gb565)); have n6_ := Aside0.mk ((by rw [hg]; exact Nat.ne_of_lt (blk_lt (g := gb560) (o := .cells #[.slice A0_0 l0_0.length c0_0, .slice A0_1 l0_1.length c0_1, .slice A0_2 l0_2.length c0_2, .int .i64 a0_3, .int .i64 a0_4] 33 (0, 0)) (by (with_reducible repeat (first | refine blk_drewN ?_ _ | refine blk_drew ?_ | refine blk_alloc ?_ _)); exact BK560.out)) : gb560 ≠ gb565)); have n7_ := Aside0.mk ((by rw [hg]; exact Nat.ne_of_gt (blk_lt (g := gb560) (o := .cells #[.slice A0_0 l0_0.length c0_0, .slice A0_1 l0_1.length c0_1, .slice A0_2 l0_2.length c0_2, .int .i64 a0_3, .int .i64 a0_4] 33 (0, 0)) (by (with_reducible repeat (first | refine blk_drewN ?_ _ | refine blk_drew ?_ | refine blk_alloc ?_ _)); exact BK560.out)) : gb565 ≠ gb560)); clear HO_7; clear BK560; clear HB; have HO_7 := n0_; have BK560 := n1_; have HB := n2_; have BK565 := n3_; have GW565 := n4_; have GE565 := n5_; have NB560_565 := n6_; have NB565_560 := n7_; clear n0_ n1_ n2_ n3_ n4_ n5_ n6_ n7_; clear hb hbox hg; have hnb27 := NB565_560.out; have hnc27 := NB560_565.out; have hcz28_0 : w26.cell? ⟨gb565, 0, none⟩ = some (.int .i64 0) := (blk_cell BK565.out 0).trans rfl; have hcz28_1 : w26.cell? ⟨gb565, 1, none⟩ = some (.slice none 0 0) := (blk_cell BK565.out 1).trans rfl; have hfz28_0 := blk_frozen BK565.out 0; have hfz28_1 := blk_frozen BK565.out 1))
            go_roundg k2
            case measure => have := HK1.out; have := HK2.out; omega
            case rel => exact ⟨(x7_2), (wrap64 (x26_2 + 1)), (by first | rfl | (simp; done) | (simp [*]; done) | (simp [Int.tdiv_eq_ediv_of_nonneg, *]; done)), H', ⟨by have := HK1.out; have := HK2.out; omega⟩, ⟨by (with_reducible repeat (first | apply Kd.R_alloc | apply Kd.R_drewN | apply Kd.R_drew)); exact Kd.R_mono (Kd.R_far (p := ⟨gb565, 1, none⟩) (Kd.R_far (p := ⟨gb565, 0, none⟩) (Kd.R_types HO_7.out BK565.out (by decide)) (fun _ hk => hk.2) (.int .i64 ((rd_T106 l1 x26_2).f0))) (fun _ hk => hk.2) (.slice A564_1 ((rd_T106 l1 x26_2).f1).length c564_1)) (fun _ hk => trivial)⟩, ⟨by (with_reducible repeat (first | refine blk_drewN ?_ _ | refine blk_drew ?_ | refine blk_alloc ?_ _)); refine blk_far ?_ NB560_565.out _; (with_reducible repeat (first | refine blk_drewN ?_ _ | refine blk_drew ?_ | refine blk_alloc ?_ _)); refine blk_far ?_ NB560_565.out _; (with_reducible repeat (first | refine blk_drewN ?_ _ | refine blk_drew ?_ | refine blk_alloc ?_ _)); exact BK560.out⟩, ⟨by repeat (first | (with_reducible first | exact HB.out | apply below_alloc | apply pw_below_drewN | apply below_drew1 | refine below_set ?_ GE560.out | refine below_set ?_ GE565.out) | exact HB.out)⟩⟩
          ·rw [if_neg c13] at H
           exact absurd H (by simp)
         ·rw [if_neg c12] at H
          exact absurd H (by simp)
        ·rw [if_neg c11] at H
         have c11b0 : decide (x26_2 < (l1.length : Int)) = false := decide_eq_false c11
         clear c11
         have H' := Aside0.mk H
         clear H
         have hcz29_0 : wr.cell? ⟨gb560, 0, none⟩ = some (.slice A0_0 l0_0.length c0_0) := (blk_cell BK560.out 0).trans rfl
         have hcz29_1 : wr.cell? ⟨gb560, 1, none⟩ = some (.slice A0_1 l0_1.length c0_1) := (blk_cell BK560.out 1).trans rfl
         have hcz29_2 : wr.cell? ⟨gb560, 2, none⟩ = some (.slice A0_2 l0_2.length c0_2) := (blk_cell BK560.out 2).trans rfl
         have hcz29_3 : wr.cell? ⟨gb560, 3, none⟩ = some (.int .i64 a0_3) := (blk_cell BK560.out 3).trans rfl
         have hcz29_4 : wr.cell? ⟨gb560, 4, none⟩ = some (.int .i64 a0_4) := (blk_cell BK560.out 4).trans rfl
         have hfz29_0 := blk_frozen BK560.out 0
         have hfz29_1 := blk_frozen BK560.out 1
         have hfz29_2 := blk_frozen BK560.out 2
         have hfz29_3 := blk_frozen BK560.out 3
         have hfz29_4 := blk_frozen BK560.out 4
         go_wp2
         go_loopg [49] k2 (fun kq v49 w' => ∃ (x7_3 : List Int) (x49_3 : Int), v49 = .int .i64 x49_3 ∧ Aside0 (impl_Head_worn.l3 kq l1 a2 x7_3 x8_1 l0_0 (l0_0.length : Int) x49_3 l0_0 l0_1 l0_2 a0_3 a0_4 = some r) ∧ Aside0 (kq ≤ k2) ∧ Aside0 (Kd.R (Kd.int .i64) 2 w' w.heap.size (fun _ => True) v562 x7_3) ∧ Aside0 (w'.heap[gb560]? = some (.cells #[(.slice A0_0 l0_0.length c0_0), (.slice A0_1 l0_1.length c0_1), (.slice A0_2 l0_2.length c0_2), .int .i64 a0_3, .int .i64 a0_4] 33 (0, 0))) ∧ Aside0 (Below w.heap.size w w'))
         case atStart => exact ⟨(x7_2), (0), (by first | rfl | (simp; done) | (simp [*]; done) | (simp [Int.tdiv_eq_ediv_of_nonneg, *]; done)), H', ⟨Nat.le_refl _⟩, ⟨by (with_reducible repeat (first | apply Kd.R_alloc | apply Kd.R_drewN | apply Kd.R_drew)); exact HO_7.out⟩, ⟨by (with_reducible repeat (first | refine blk_drewN ?_ _ | refine blk_drew ?_ | refine blk_alloc ?_ _)); exact BK560.out⟩, ⟨by repeat (first | (with_reducible first | exact HB.out | apply below_alloc | apply pw_below_drewN | apply below_drew1 | refine below_set ?_ GE560.out) | exact HB.out)⟩⟩
         case round =>
          clear H'
          try clear c1
          try clear c2
          try clear p2
          try clear q2
          try clear hx2
          try clear c4
          try clear c4b0
          try clear c4b1
          try clear c5
          try clear c5b0
          try clear c5b1
          try clear p5
          try clear q5
          try clear hx5
          try clear p6
          try clear c10
          try clear c10b0
          try clear c11
          try clear c11b0
          try clear c12
          try clear c12b0
          try clear c13
          try clear c13b0
          try clear c14
          try clear c14b0
          try clear c14b1
          try clear c16
          try clear c18
          try clear c18b0
          try clear c19
          try clear c19b0
          try clear c20
          try clear c20b0
          try clear c21
          try clear c21b0
          try clear c22
          try clear c22b0
          try clear p23
          try clear q23
          try clear hx23
          try clear hf23
          try clear c27
          try clear hcz17_0
          try clear hcz17_1
          try clear hcz28_0
          try clear hcz28_1
          try clear hcz29_0
          try clear hcz29_1
          try clear hcz29_2
          try clear hcz29_3
          try clear hcz29_4
          try clear hcz7_0
          try clear hcz7_1
          try clear hcz7_2
          try clear hcz7_3
          try clear hcz7_4
          try clear hfz17_0
          try clear hfz17_1
          try clear hfz28_0
          try clear hfz28_1
          try clear hfz29_0
          try clear hfz29_1
          try clear hfz29_2
          try clear hfz29_3
          try clear hfz29_4
          try clear hfz7_0
          try clear hfz7_1
          try clear hfz7_2
          try clear hfz7_3
          try clear hfz7_4
          try clear hx23_0
          try clear hx564_0
          try clear hx564_1
          try clear hx566_0
          try clear p2
          try clear p23
          try clear p5
          try clear p564
          try clear p566
          try clear q23
          try clear q5
          try clear q564
          try clear q566
          obtain ⟨x7_3, x49_3, rfl, HA, HK3, HO_7, BK560, HB⟩ := hrel
          cases gk with
          | zero => exact absurd HA.out (by simp [impl_Head_worn.l3])
          | succ k3 =>
           have H := HA.out
           clear HA
           simp only [impl_Head_worn.l3] at H
           by_cases c30 : x49_3 < (l0_0.length : Int)
           ·rw [if_pos c30] at H
            have c30b0 : decide (x49_3 < (l0_0.length : Int)) = true := decide_eq_true c30
            clear c30
            by_cases c31 : 0 ≤ x49_3
            ·rw [if_pos c31] at H
             have c31b0 : decide (0 ≤ x49_3) = true := decide_eq_true c31
             clear c31
             by_cases c32 : x49_3 < (l0_0.length : Int)
             ·rw [if_pos c32] at H
              have c32b0 : decide (x49_3 < (l0_0.length : Int)) = true := decide_eq_true c32
              clear c32
              by_cases c33 : x8_1 < a2
              ·rw [if_pos c33] at H
               have c33b0 : decide (x8_1 < a2) = true := decide_eq_true c33
               clear c33
               by_cases c34 : x49_3 < (x7_3.length : Int)
               ·rw [if_pos c34] at H
                have c34b0 : decide (x49_3 < (x7_3.length : Int)) = true := decide_eq_true c34
                clear c34
                by_cases c35 : 0 ≤ x8_1
                ·rw [if_pos c35] at H
                 have c35b0 : decide (0 ≤ x8_1) = true := decide_eq_true c35
                 clear c35
                 by_cases c36 : x8_1 < (l0_1.length : Int)
                 ·rw [if_pos c36] at H
                  have c36b0 : decide (x8_1 < (l0_1.length : Int)) = true := decide_eq_true c36
                  clear c36
                  obtain ⟨y572, hy572⟩ : ∃ y_ : List Int, y_ = (x7_3.set (x49_3 : Int).toNat (wrap64 ((rd x7_3 x49_3) + (wrap64 (((rd_T154 l0_0 x49_3).f0) * (rd l0_1 x8_1)))))) := ⟨_, rfl⟩
                  replace H : (impl_Head_worn.l3 k3 l1 a2 y572 x8_1 l0_0 (l0_0.length : Int) (wrap64 (x49_3 + 1)) l0_0 l0_1 l0_2 a0_3 a0_4) = some r := by first | (rw [hy572]; with_reducible exact H) | (have H2_ := (Option.bind_some _ _).symm.trans H; rw [hy572]; with_reducible exact H2_) | (have H2_ := (Option.bind_some _ _).symm.trans H; with_reducible exact H2_) | with_reducible exact H | (rw [hy572]; exact H) | exact H
                  have Ny572 := Aside0.mk hy572
                  clear hy572
                  have H' := Aside0.mk H
                  clear H
                  have p568 : 0 ≤ (x49_3 : Int) := of_decide_eq_true (by assumption)
                  have q568 : x49_3 < (l0_0.length : Int) := of_decide_eq_true (by assumption)
                  obtain ⟨ad568, e568, hx568_0, hx568_1⟩ := at_T154 HR0_0.out x49_3 p568 q568
                  cases e568
                  replace hx568_0 := (HB.out.cell (World.block_lt_of_cell? w _ hx568_0)).trans hx568_0
                  replace hx568_1 := (HB.out.cell (World.block_lt_of_cell? w _ hx568_1)).trans hx568_1
                  replace p568 := eq_true p568
                  replace q568 := eq_true q568
                  try go_wp2_with (first | ((with_reducible refine gate_dst (N := 14) rfl ?_); refine box_event ?hg (N := 14) ?hd (cs := #[.int .i64 0, .int .i64 0]) (t := 154) ?hr ?_; (case hd => rfl); (case hg => rfl); (case hr => first | (go_simp; done) | (go_simp; rfl)); intro gb569 hg w38 hbox hb; have n0_ := Aside0.mk (Kd.R_below (by (with_reducible repeat (first | apply Kd.R_alloc | apply Kd.R_drewN | apply Kd.R_drew)); exact HO_7.out) hb); have n1_ := Aside0.mk (blk_below (g := gb560) (o := .cells #[.slice (some ad568) l0_0.length c0_0, .slice A0_1 l0_1.length c0_1, .slice A0_2 l0_2.length c0_2, .int .i64 a0_3, .int .i64 a0_4] 33 (0, 0)) (by (with_reducible repeat (first | refine blk_drewN ?_ _ | refine blk_drew ?_ | refine blk_alloc ?_ _)); exact BK560.out) hb); have n2_ := Aside0.mk (below_step (by repeat (first | (with_reducible first | exact HB.out | apply below_alloc | apply pw_below_drewN | apply below_drew1 | refine below_set ?_ GE560.out) | exact HB.out)) hb); have n3_ := Aside0.mk (hbox); have n4_ := Aside0.mk ((by rw [hg]; exact (below_size (by repeat (first | (with_reducible first | exact HB.out | apply below_alloc | apply pw_below_drewN | apply below_drew1 | refine below_set ?_ GE560.out) | exact HB.out))) : w.heap.size ≤ gb569)); have n5_ := Aside0.mk ((by rw [hg]; exact (below_size (by repeat (first | (with_reducible first | exact HB.out | apply below_alloc | apply pw_below_drewN | apply below_drew1 | refine below_set ?_ GE560.out) | exact HB.out))) : w.heap.size ≤ gb569)); have n6_ := Aside0.mk ((by rw [hg]; exact Nat.ne_of_lt (blk_lt (g := gb560) (o := .cells #[.slice (some ad568) l0_0.length c0_0, .slice A0_1 l0_1.length c0_1, .slice A0_2 l0_2.length c0_2, .int .i64 a0_3, .int .i64 a0_4] 33 (0, 0)) (by (with_reducible repeat (first | refine blk_drewN ?_ _ | refine blk_drew ?_ | refine blk_alloc ?_ _)); exact BK560.out)) : gb560 ≠ gb569)); have n7_ := Aside0.mk ((by rw [hg]; exact Nat.ne_of_gt (blk_lt (g := gb560) (o := .cells #[.slice (some ad568) l0_0.length c0_0, .slice A0_1 l0_1.length c0_1, .slice A0_2 l0_2.length c0_2, .int .i64 a0_3, .int .i64 a0_4] 33 (0, 0)) (by (with_reducible repeat (first | refine blk_drewN ?_ _ | refine blk_drew ?_ | refine blk_alloc ?_ _)); exact BK560.out)) : gb569 ≠ gb560)); clear HO_7; clear BK560; clear HB; have HO_7 := n0_; have BK560 := n1_; have HB := n2_; have BK569 := n3_; have GW569 := n4_; have GE569 := n5_; have NB560_569 := n6_; have NB569_560 := n7_; clear n0_ n1_ n2_ n3_ n4_ n5_ n6_ n7_; clear hb hbox hg; have hnb39 := NB569_560.out; have hnc39 := NB560_569.out; have hcz40_0 : w38.cell? ⟨gb569, 0, none⟩ = some (.int .i64 0) := (blk_cell BK569.out 0).trans rfl; have hcz40_1 : w38.cell? ⟨gb569, 1, none⟩ = some (.int .i64 0) := (blk_cell BK569.out 1).trans rfl; have hfz40_0 := blk_frozen BK569.out 0; have hfz40_1 := blk_frozen BK569.out 1))
                  have n0_ : Aside0 (Kd.R (Kd.int .i64) 2 ((w38.setCell ⟨gb569, 0, none⟩ (.int .i64 ((rd_T154 l0_0 x49_3).f0))).setCell ⟨gb569, 1, none⟩ (.int .i64 ((rd_T154 l0_0 x49_3).f1))) w.heap.size (fun _ => True) v562 x7_3) := ⟨by (with_reducible repeat (first | apply Kd.R_alloc | apply Kd.R_drewN | apply Kd.R_drew)); exact Kd.R_mono (Kd.R_far (p := ⟨gb569, 1, none⟩) (Kd.R_far (p := ⟨gb569, 0, none⟩) (Kd.R_types HO_7.out BK569.out (by decide)) (fun _ hk => hk.2) (.int .i64 ((rd_T154 l0_0 x49_3).f0))) (fun _ hk => hk.2) (.int .i64 ((rd_T154 l0_0 x49_3).f1))) (fun _ hk => trivial)⟩
                  have n1_ : Aside0 (((w38.setCell ⟨gb569, 0, none⟩ (.int .i64 ((rd_T154 l0_0 x49_3).f0))).setCell ⟨gb569, 1, none⟩ (.int .i64 ((rd_T154 l0_0 x49_3).f1))).heap[gb560]? = some (.cells #[.slice (some ad568) l0_0.length c0_0, .slice A0_1 l0_1.length c0_1, .slice A0_2 l0_2.length c0_2, .int .i64 a0_3, .int .i64 a0_4] 33 (0, 0))) := ⟨by (with_reducible repeat (first | refine blk_drewN ?_ _ | refine blk_drew ?_ | refine blk_alloc ?_ _)); refine blk_far ?_ NB560_569.out _; (with_reducible repeat (first | refine blk_drewN ?_ _ | refine blk_drew ?_ | refine blk_alloc ?_ _)); refine blk_far ?_ NB560_569.out _; (with_reducible repeat (first | refine blk_drewN ?_ _ | refine blk_drew ?_ | refine blk_alloc ?_ _)); exact BK560.out⟩
                  have n2_ : Aside0 (((w38.setCell ⟨gb569, 0, none⟩ (.int .i64 ((rd_T154 l0_0 x49_3).f0))).setCell ⟨gb569, 1, none⟩ (.int .i64 ((rd_T154 l0_0 x49_3).f1))).heap[gb569]? = some (.cells #[.int .i64 ((rd_T154 l0_0 x49_3).f0), .int .i64 ((rd_T154 l0_0 x49_3).f1)] 154 (0, 0))) := ⟨by (with_reducible repeat (first | refine blk_drewN ?_ _ | refine blk_drew ?_ | refine blk_alloc ?_ _)); refine blk_put (cs := #[.int .i64 ((rd_T154 l0_0 x49_3).f0), .int .i64 0]) ?_ 1 _ rfl; (with_reducible repeat (first | refine blk_drewN ?_ _ | refine blk_drew ?_ | refine blk_alloc ?_ _)); refine blk_put (cs := #[.int .i64 0, .int .i64 0]) ?_ 0 _ rfl; (with_reducible repeat (first | refine blk_drewN ?_ _ | refine blk_drew ?_ | refine blk_alloc ?_ _)); exact BK569.out⟩
                  have n3_ : Aside0 (Below w.heap.size w ((w38.setCell ⟨gb569, 0, none⟩ (.int .i64 ((rd_T154 l0_0 x49_3).f0))).setCell ⟨gb569, 1, none⟩ (.int .i64 ((rd_T154 l0_0 x49_3).f1)))) := ⟨by repeat (first | (with_reducible first | exact HB.out | apply below_alloc | apply pw_below_drewN | apply below_drew1 | refine below_set ?_ GE560.out | refine below_set ?_ GE569.out) | exact HB.out)⟩
                  (try clear HO_7)
                  (try clear BK560)
                  (try clear BK569)
                  (try clear HB)
                  generalize ((w38.setCell ⟨gb569, 0, none⟩ (.int .i64 ((rd_T154 l0_0 x49_3).f0))).setCell ⟨gb569, 1, none⟩ (.int .i64 ((rd_T154 l0_0 x49_3).f1))) = w41 at n0_ n1_ n2_ n3_ ⊢
                  have HO_7 := n0_
                  have BK560 := n1_
                  have BK569 := n2_
                  have HB := n3_
                  clear n0_ n1_ n2_ n3_
                  have n0_ := Aside0.mk (Kd.R_drew HO_7.out)
                  have n1_ := Aside0.mk (blk_drew BK560.out)
                  have n2_ := Aside0.mk (blk_drew BK569.out)
                  have n3_ := Aside0.mk (below_drew1 HB.out)
                  clear HO_7
                  clear BK560
                  clear BK569
                  clear HB
                  have HO_7 := n0_
                  have BK560 := n1_
                  have BK569 := n2_
                  have HB := n3_
                  clear n0_ n1_ n2_ n3_
                  obtain ⟨Ao43, co43, eo43⟩ := Kd.R_slice HO_7.out
                  (first | subst eo43 | (injection eo43 with f1_ f2_ f3_; have f4_ := f1_.symm; have f5_ := f3_.symm; clear f1_ f2_ f3_; subst f4_; subst f5_))
                  have p570 : 0 ≤ (x49_3 : Int) := of_decide_eq_true (by assumption)
                  have q570 : x49_3 < (x7_3.length : Int) := of_decide_eq_true (by assumption)
                  obtain ⟨ad570, e570, hx570_0⟩ := Kd.at_int (Kd.R_reads' HO_7.out).2.2 x49_3 p570 q570
                  cases e570
                  replace p570 := eq_true p570
                  replace q570 := eq_true q570
                  have p571 : 0 ≤ (x8_1 : Int) := of_decide_eq_true (by assumption)
                  have q571 : x8_1 < (l0_1.length : Int) := of_decide_eq_true (by assumption)
                  obtain ⟨ad571, e571, hx571_0⟩ := Kd.at_int HR0_1.out x8_1 p571 q571
                  have hw571_0 := hx571_0
                  cases e571
                  replace hx571_0 := (HB.out.cell (World.block_lt_of_cell? w _ hx571_0)).trans hx571_0
                  replace p571 := eq_true p571
                  replace q571 := eq_true q571
                  have p37 : 0 ≤ (x49_3 : Int) := of_decide_eq_true (by assumption)
                  have q37 : (x49_3 : Int) < ((x7_3.length : Int) : Int) := of_decide_eq_true (by assumption)
                  obtain ⟨go37, co37, eo37, gb37, gl37, cl37, HG37⟩ := Kd.R_form HO_7.out (by omega)
                  (first | cases eo37 | (injection eo37 with ea_ en_ ec_; (first | subst ea_ | (injection ea_ with ea_; subst ea_)); subst ec_; clear en_))
                  have GB37 := Aside0.mk gb37
                  have GG37 := Aside0.mk HG37
                  clear gb37 gl37 HG37
                  (first | simp only [add_plain] at hx570_0 | skip)
                  obtain ⟨hx37_0, hf37_0⟩ := Kd.R_celln 0 HO_7.out (x49_3 : Int) p37 q37
                  replace p37 := eq_true p37
                  replace q37 := eq_true q37
                  have HP44 := Kd.R_putn HO_7.out (x49_3 : Int) (wrap64 ((rd x7_3 x49_3) + (wrap64 (((rd_T154 l0_0 x49_3).f0) * (rd l0_1 x8_1)))))
                  rw [← Ny572.out] at HP44
                  have HQ44 := Aside0.mk HP44
                  clear HP44
                  refine start_ (n := 15) (S := fun w' => w'.cell? ⟨gb569, 0, none⟩ = some (.int .i64 ((rd_T154 l0_0 x49_3).f0)) ∧ w'.cell? ⟨gb569, 1, none⟩ = some (.int .i64 ((rd_T154 l0_0 x49_3).f1)) ∧ w'.cell? ⟨gb560, 0, none⟩ = some (.slice (some ad568) l0_0.length c0_0) ∧ w'.cell? ⟨gb560, 1, none⟩ = some (.slice (some ad571) l0_1.length c0_1) ∧ w'.cell? ⟨gb560, 2, none⟩ = some (.slice A0_2 l0_2.length c0_2) ∧ w'.cell? ⟨gb560, 3, none⟩ = some (.int .i64 a0_3) ∧ w'.cell? ⟨gb560, 4, none⟩ = some (.int .i64 a0_4) ∧ w'.cell? ⟨go37, (x49_3).toNat, none⟩ = some (.int .i64 (rd x7_3 x49_3)) ∧ w'.cell? (ad571.add (x8_1).toNat) = some (.int .i64 (rd l0_1 x8_1))) (ds := [14]) p16_10000 (by kernel_rfl) rfl rfl ⟨(blk_cell BK569.out 0).trans rfl, (blk_cell BK569.out 1).trans rfl, (blk_cell BK560.out 0).trans rfl, (blk_cell BK560.out 1).trans rfl, (blk_cell BK560.out 2).trans rfl, (blk_cell BK560.out 3).trans rfl, (blk_cell BK560.out 4).trans rfl, hx570_0, ((HB.out.cell (World.block_lt_of_cell? w _ hw571_0)).trans hw571_0)⟩ (fun hHeld => ?_); refine with_tabW impl_Head_worn.tab19 impl_Head_worn.bits19 (fun HT_ HW_ => ?_)
                  generalize w41.drew = w42 at HO_7 BK560 BK569 HB GG37 HQ44 hf37_0 hx37_0 hx570_0 hx571_0 hHeld ⊢
                  refine pure_ (i := 0) (N := some 57) (v := ?_) (a' := ?_) p16_10001 rfl rfl (any_of HT_.out (by kernel_rfl)) (fun _ _ _ h => h) (Or.inl ⟨by rfl, ?_⟩) ?_ ?_
                  rotate_left
                  ·intro w'
                   go_simp
                   with_reducible rfl
                  rotate_left
                  ·simp only [Act.put, qa_, qz_, qs_, i64_w, i32_w]
                   rfl
                  refine pure_ (i := 1) (N := some 58) (v := ?_) (a' := ?_) p16_10002 rfl rfl (any_of HT_.out (by kernel_rfl)) (fun _ _ _ h => h) (Or.inl ⟨by rfl, ?_⟩) ?_ ?_
                  rotate_left
                  ·intro w'
                   go_simp
                   with_reducible rfl
                  rotate_left
                  ·simp only [Act.put, qa_, qz_, qs_, i64_w, i32_w]
                   rfl
                  refine pure_ (i := 2) (N := some 59) (v := ?_) (a' := ?_) p16_10003 rfl rfl (any_of HT_.out (by kernel_rfl)) (fun _ _ _ h => h) (Or.inl ⟨by rfl, ?_⟩) ?_ ?_
                  rotate_left
                  ·intro w'
                   go_simp
                   with_reducible rfl
                  rotate_left
                  ·simp only [Act.put, qa_, qz_, qs_, i64_w, i32_w]
                   rfl
                  refine pure_ (i := 4) (N := some 61) (v := ?_) (a' := ?_) p16_10004 rfl rfl (any_of HT_.out (by kernel_rfl)) (fun _ _ _ h => h) (Or.inl ⟨by rfl, ?_⟩) ?_ ?_
                  rotate_left
                  ·intro w'
                   go_simp
                   with_reducible rfl
                  rotate_left
                  ·simp only [Act.put, qa_, qz_, qs_, i64_w, i32_w]
                   rfl
                  refine pure_ (i := 6) (N := some 63) (v := ?_) (a' := ?_) p16_10005 rfl rfl (any_of HT_.out (by kernel_rfl)) (fun _ _ _ h => h) (Or.inl ⟨by rfl, ?_⟩) ?_ ?_
                  rotate_left
                  ·intro w'
                   go_simp
                   with_reducible rfl
                  rotate_left
                  ·simp only [Act.put, qa_, qz_, qs_, i64_w, i32_w]
                   rfl
                  refine pure_ (i := 8) (N := some 65) (v := ?_) (a' := ?_) p16_10006 rfl rfl (any_of HT_.out (by kernel_rfl)) (fun _ _ _ h => h) (Or.inl ⟨by rfl, ?_⟩) ?_ ?_
                  rotate_left
                  ·intro w'
                   go_simp
                   with_reducible rfl
                  rotate_left
                  ·simp only [Act.put, qa_, qz_, qs_, i64_w, i32_w]
                   rfl
                  refine take_ (i := 3) (N := some 60) (v := ?_) (a' := ?_) p16_10007 rfl rfl (take_ofW HT_.out HW_.out (by kernel_rfl)) (fun _ _ _ h => h) (Or.inl ⟨by rfl, ?_⟩) hHeld ?_ ?_
                  rotate_left
                  ·rintro w' ⟨s0, s1, s2, s3, s4, s5, s6, s7, s8⟩
                   go_simp
                   with_reducible rfl
                  rotate_left
                  ·simp only [Act.put, qa_, qz_, qs_, i64_w, i32_w]
                   rfl
                  refine take_ (i := 5) (N := some 62) (v := ?_) (a' := ?_) p16_10008 rfl rfl (take_ofW HT_.out HW_.out (by kernel_rfl)) (fun _ _ _ h => h) (Or.inl ⟨by rfl, ?_⟩) hHeld ?_ ?_
                  rotate_left
                  ·rintro w' ⟨s0, s1, s2, s3, s4, s5, s6, s7, s8⟩
                   go_simp
                   with_reducible rfl
                  rotate_left
                  ·simp only [Act.put, qa_, qz_, qs_, i64_w, i32_w]
                   rfl
                  refine take_ (i := 7) (N := some 64) (v := ?_) (a' := ?_) p16_10009 rfl rfl (take_ofW HT_.out HW_.out (by kernel_rfl)) (fun _ _ _ h => h) (Or.inl ⟨by rfl, ?_⟩) hHeld ?_ ?_
                  rotate_left
                  ·rintro w' ⟨s0, s1, s2, s3, s4, s5, s6, s7, s8⟩
                   go_simp
                   with_reducible rfl
                  rotate_left
                  ·simp only [Act.put, qa_, qz_, qs_, i64_w, i32_w]
                   rfl
                  refine pure_ (i := 9) (N := some 66) (v := ?_) (a' := ?_) p16_10010 rfl rfl (any_of HT_.out (by kernel_rfl)) (fun _ _ _ h => h) (Or.inl ⟨by rfl, ?_⟩) ?_ ?_
                  rotate_left
                  ·intro w'
                   go_simp
                   with_reducible rfl
                  rotate_left
                  ·simp only [Act.put, qa_, qz_, qs_, i64_w, i32_w]
                   rfl
                  refine take_ (i := 10) (N := some 67) (v := ?_) (a' := ?_) p16_10011 rfl rfl (take_ofW HT_.out HW_.out (by kernel_rfl)) (fun _ _ _ h => h) (Or.inl ⟨by rfl, ?_⟩) hHeld ?_ ?_
                  rotate_left
                  ·rintro w' ⟨s0, s1, s2, s3, s4, s5, s6, s7, s8⟩
                   go_simp
                   with_reducible rfl
                  rotate_left
                  ·simp only [Act.put, qa_, qz_, qs_, i64_w, i32_w]
                   rfl
                  refine pure_ (i := 11) (N := some 68) (v := ?_) (a' := ?_) p16_10012 rfl rfl (any_of HT_.out (by kernel_rfl)) (fun _ _ _ h => h) (Or.inl ⟨by rfl, ?_⟩) ?_ ?_
                  rotate_left
                  ·intro w'
                   go_simp
                   with_reducible rfl
                  rotate_left
                  ·simp only [Act.put, qa_, qz_, qs_, i64_w, i32_w]
                   rfl
                  refine pure_ (i := 12) (N := some 69) (v := ?_) (a' := ?_) p16_10013 rfl rfl (any_of HT_.out (by kernel_rfl)) (fun _ _ _ h => h) (Or.inl ⟨by rfl, ?_⟩) ?_ ?_
                  rotate_left
                  ·intro w'
                   go_simp
                   with_reducible rfl
                  rotate_left
                  ·simp only [Act.put, qa_, qz_, qs_, i64_w, i32_w]
                   rfl
                  refine pure_ (i := 13) (N := some 70) (v := ?_) (a' := ?_) p16_10014 rfl rfl (any_of HT_.out (by kernel_rfl)) (fun _ _ _ h => h) (Or.inl ⟨by rfl, ?_⟩) ?_ ?_
                  rotate_left
                  ·intro w'
                   go_simp
                   with_reducible rfl
                  rotate_left
                  ·simp only [Act.put, qa_, qz_, qs_, i64_w, i32_w]
                   rfl
                  refine last_ (i := 14) (N := none) p16_10015 rfl rfl (one_of HT_.out (by kernel_rfl)) (by decide) (fun K hK => ?_)
                  refine skip_ (w1 := ?_) (by rfl) rfl ?_ ?_
                  rotate_left
                  ·go_simp
                   rfl
                  refine hK.out _ _ ?_
                  clear hK K
                  refine done_ (done_of HT_.out (by kernel_rfl)) ?_
                  try go_wp2
                  go_roundg k3
                  case measure => have := HK1.out; have := HK2.out; have := HK3.out; omega
                  case rel => exact ⟨(y572), (wrap64 (x49_3 + 1)), (by first | rfl | (simp; done) | (simp [*]; done) | (simp [Int.tdiv_eq_ediv_of_nonneg, *]; done)), H', ⟨by have := HK1.out; have := HK2.out; have := HK3.out; omega⟩, ⟨by (with_reducible repeat (first | apply Kd.R_alloc | apply Kd.R_drewN | apply Kd.R_drew)); exact HQ44.out⟩, ⟨by (with_reducible repeat (first | refine blk_drewN ?_ _ | refine blk_drew ?_ | refine blk_alloc ?_ _)); refine blk_far ?_ (by have h_ := Kd.R_ne HO_7.out BK560.out (by decide); intro e_; exact h_ (by rw [e_]; rfl)) _; (with_reducible repeat (first | refine blk_drewN ?_ _ | refine blk_drew ?_ | refine blk_alloc ?_ _)); exact BK560.out⟩, ⟨by repeat (first | (with_reducible first | exact HB.out | apply below_alloc | apply pw_below_drewN | apply below_drew1 | refine below_set ?_ GB37.out | refine below_set ?_ GE560.out | refine below_set ?_ GE569.out) | exact HB.out)⟩⟩
                 ·rw [if_neg c36] at H
                  exact absurd H (by simp)
                ·rw [if_neg c35] at H
                 exact absurd H (by simp)
               ·rw [if_neg c34] at H
                exact absurd H (by simp)
              ·rw [if_neg c33] at H
               have c33b0 : decide (x8_1 < a2) = false := decide_eq_false c33
               clear c33
               have H' := Aside0.mk H
               clear H
               have p568 : 0 ≤ (x49_3 : Int) := of_decide_eq_true (by assumption)
               have q568 : x49_3 < (l0_0.length : Int) := of_decide_eq_true (by assumption)
               obtain ⟨ad568, e568, hx568_0, hx568_1⟩ := at_T154 HR0_0.out x49_3 p568 q568
               cases e568
               replace hx568_0 := (HB.out.cell (World.block_lt_of_cell? w _ hx568_0)).trans hx568_0
               replace hx568_1 := (HB.out.cell (World.block_lt_of_cell? w _ hx568_1)).trans hx568_1
               replace p568 := eq_true p568
               replace q568 := eq_true q568
               go_wp2_with (first | ((with_reducible refine gate_dst (N := 14) rfl ?_); refine box_event ?hg (N := 14) ?hd (cs := #[.int .i64 0, .int .i64 0]) (t := 154) ?hr ?_; (case hd => rfl); (case hg => rfl); (case hr => first | (go_simp; done) | (go_simp; rfl)); intro gb569 hg w45 hbox hb; have n0_ := Aside0.mk (Kd.R_below (by (with_reducible repeat (first | apply Kd.R_alloc | apply Kd.R_drewN | apply Kd.R_drew)); exact HO_7.out) hb); have n1_ := Aside0.mk (blk_below (g := gb560) (o := .cells #[.slice (some ad568) l0_0.length c0_0, .slice A0_1 l0_1.length c0_1, .slice A0_2 l0_2.length c0_2, .int .i64 a0_3, .int .i64 a0_4] 33 (0, 0)) (by (with_reducible repeat (first | refine blk_drewN ?_ _ | refine blk_drew ?_ | refine blk_alloc ?_ _)); exact BK560.out) hb); have n2_ := Aside0.mk (below_step (by repeat (first | (with_reducible first | exact HB.out | apply below_alloc | apply pw_below_drewN | apply below_drew1 | refine below_set ?_ GE560.out) | exact HB.out)) hb); have n3_ := Aside0.mk (hbox); have n4_ := Aside0.mk ((by rw [hg]; exact (below_size (by repeat (first | (with_reducible first | exact HB.out | apply below_alloc | apply pw_below_drewN | apply below_drew1 | refine below_set ?_ GE560.out) | exact HB.out))) : w.heap.size ≤ gb569)); have n5_ := Aside0.mk ((by rw [hg]; exact (below_size (by repeat (first | (with_reducible first | exact HB.out | apply below_alloc | apply pw_below_drewN | apply below_drew1 | refine below_set ?_ GE560.out) | exact HB.out))) : w.heap.size ≤ gb569)); have n6_ := Aside0.mk ((by rw [hg]; exact Nat.ne_of_lt (blk_lt (g := gb560) (o := .cells #[.slice (some ad568) l0_0.length c0_0, .slice A0_1 l0_1.length c0_1, .slice A0_2 l0_2.length c0_2, .int .i64 a0_3, .int .i64 a0_4] 33 (0, 0)) (by (with_reducible repeat (first | refine blk_drewN ?_ _ | refine blk_drew ?_ | refine blk_alloc ?_ _)); exact BK560.out)) : gb560 ≠ gb569)); have n7_ := Aside0.mk ((by rw [hg]; exact Nat.ne_of_gt (blk_lt (g := gb560) (o := .cells #[.slice (some ad568) l0_0.length c0_0, .slice A0_1 l0_1.length c0_1, .slice A0_2 l0_2.length c0_2, .int .i64 a0_3, .int .i64 a0_4] 33 (0, 0)) (by (with_reducible repeat (first | refine blk_drewN ?_ _ | refine blk_drew ?_ | refine blk_alloc ?_ _)); exact BK560.out)) : gb569 ≠ gb560)); clear HO_7; clear BK560; clear HB; have HO_7 := n0_; have BK560 := n1_; have HB := n2_; have BK569 := n3_; have GW569 := n4_; have GE569 := n5_; have NB560_569 := n6_; have NB569_560 := n7_; clear n0_ n1_ n2_ n3_ n4_ n5_ n6_ n7_; clear hb hbox hg; have hnb46 := NB569_560.out; have hnc46 := NB560_569.out; have hcz47_0 : w45.cell? ⟨gb569, 0, none⟩ = some (.int .i64 0) := (blk_cell BK569.out 0).trans rfl; have hcz47_1 : w45.cell? ⟨gb569, 1, none⟩ = some (.int .i64 0) := (blk_cell BK569.out 1).trans rfl; have hfz47_0 := blk_frozen BK569.out 0; have hfz47_1 := blk_frozen BK569.out 1))
               go_roundg k3
               case measure => have := HK1.out; have := HK2.out; have := HK3.out; omega
               case rel => exact ⟨(x7_3), (wrap64 (x49_3 + 1)), (by first | rfl | (simp; done) | (simp [*]; done) | (simp [Int.tdiv_eq_ediv_of_nonneg, *]; done)), H', ⟨by have := HK1.out; have := HK2.out; have := HK3.out; omega⟩, ⟨by (with_reducible repeat (first | apply Kd.R_alloc | apply Kd.R_drewN | apply Kd.R_drew)); exact Kd.R_mono (Kd.R_far (p := ⟨gb569, 1, none⟩) (Kd.R_far (p := ⟨gb569, 0, none⟩) (Kd.R_types HO_7.out BK569.out (by decide)) (fun _ hk => hk.2) (.int .i64 ((rd_T154 l0_0 x49_3).f0))) (fun _ hk => hk.2) (.int .i64 ((rd_T154 l0_0 x49_3).f1))) (fun _ hk => trivial)⟩, ⟨by (with_reducible repeat (first | refine blk_drewN ?_ _ | refine blk_drew ?_ | refine blk_alloc ?_ _)); refine blk_far ?_ NB560_569.out _; (with_reducible repeat (first | refine blk_drewN ?_ _ | refine blk_drew ?_ | refine blk_alloc ?_ _)); refine blk_far ?_ NB560_569.out _; (with_reducible repeat (first | refine blk_drewN ?_ _ | refine blk_drew ?_ | refine blk_alloc ?_ _)); exact BK560.out⟩, ⟨by repeat (first | (with_reducible first | exact HB.out | apply below_alloc | apply pw_below_drewN | apply below_drew1 | refine below_set ?_ GE560.out | refine below_set ?_ GE569.out) | exact HB.out)⟩⟩
             ·rw [if_neg c32] at H
              exact absurd H (by simp)
            ·rw [if_neg c31] at H
             exact absurd H (by simp)
           ·rw [if_neg c30] at H
            have c30b0 : decide (x49_3 < (l0_0.length : Int)) = false := decide_eq_false c30
            clear c30
            have H' := Aside0.mk H
            clear H
            go_wp2
            go_roundg k3
            case measure => have := HK1.out; have := HK2.out; have := HK3.out; omega
            case rel => exact ⟨(x7_3), (wrap64 (x8_1 + 1)), (by first | rfl | (simp; done) | (simp [*]; done) | (simp [Int.tdiv_eq_ediv_of_nonneg, *]; done)), H', ⟨by have := HK1.out; have := HK2.out; have := HK3.out; omega⟩, ⟨by (with_reducible repeat (first | apply Kd.R_alloc | apply Kd.R_drewN | apply Kd.R_drew)); exact HO_7.out⟩, ⟨by (with_reducible repeat (first | refine blk_drewN ?_ _ | refine blk_drew ?_ | refine blk_alloc ?_ _)); exact BK560.out⟩, ⟨by repeat (first | (with_reducible first | exact HB.out | apply below_alloc | apply pw_below_drewN | apply below_drew1 | refine below_set ?_ GE560.out) | exact HB.out)⟩⟩
     ·rw [if_neg c10] at H
      have c10b0 : decide (x8_1 ≤ a2) = false := decide_eq_false c10
      clear c10
      obtain rfl := Option.some.inj H
      go_wp2
      go_ret
      exact ⟨_, by first | rfl | (simp [errW_none, errW_some] <;> rfl) | (simp [*, errW_none, errW_some] <;> rfl) | (simp [Int.tdiv_eq_ediv_of_nonneg, *]; done), by (with_reducible repeat (first | apply Kd.R_alloc | apply Kd.R_drewN | apply Kd.R_drew)); exact HO_7.out, by repeat (first | (with_reducible first | exact HB.out | apply below_alloc | apply pw_below_drewN | apply below_drew1 | refine below_set ?_ GE560.out) | exact HB.out)⟩
  ·rw [if_neg c5] at H
   exact absurd H (by simp)
 ·rw [if_neg c4] at H
  exact absurd H (by simp)

end Go.Proofs.Ytagmaflnnaonjaa.P
namespace Go.Proofs.Ytagmaflnnaonjaa.P
open Go.RowKit Go.Proofs.YtagmaflnnaonjaaW.PrintWords Go.Proofs.YtagmaflnnaonjaaW.PrintLast Go.Proofs.YtagmaflnnaonjaaW.PrintMore
attribute [local go_sem] max2_int min2_int max_two min_two max_three min_three max_four min_four   -- for this text's walks alone

mutual
def impl_Head_failure.l0 : Nat → List (S106) → List Int → Int → Int → List (S154) → List Int → List Int → Int → Int → Option (Int × Int)
 | 0, _, _, _, _, _, _, _, _, _ => none
 | k + 1, x1, x12, x13, x14, x574000, x574001, x574002, x574003, x574004 => if x14 < x13 then (if 0 ≤ x14 then (if x14 < (x12.length : Int) then ((impl_Head_worn.f k x574000 x574001 x574002 x574003 x574004 x1 x14).bind fun t575 => (impl_Head_failure.l1 k x1 x14 (rd x12 x14) t575 x12 x13 x14 x574000 (x574000.length : Int) 0 x574000 x574001 x574002 x574003 x574004)) else (none)) else (none)) else (some ((-1), (-1)))
def impl_Head_failure.l1 : Nat → List (S106) → Int → Int → List Int → List Int → Int → Int → List (S154) → Int → Int → List (S154) → List Int → List Int → Int → Int → Option (Int × Int)
 | 0, _, _, _, _, _, _, _, _, _, _, _, _, _, _, _ => none
 | k + 1, x1, x6, x7, x8, x12, x13, x14, x24, x25, x26, x574000, x574001, x574002, x574003, x574004 => if x26 < x25 then (if 0 ≤ x26 then (if x26 < (x24.length : Int) then (if x26 < (x8.length : Int) then (if (wrap64 ((rd x8 x26) + (wrap64 (((rd_T154 x24 x26).f0) * x7)))) > ((rd_T154 x24 x26).f1) then (some (x26, x6)) else (impl_Head_failure.l1 k x1 x6 x7 x8 x12 x13 x14 x24 x25 (wrap64 (x26 + 1)) x574000 x574001 x574002 x574003 x574004)) else (none)) else (none)) else (none)) else (impl_Head_failure.l0 k x1 x12 x13 (wrap64 (x14 + 1)) x574000 x574001 x574002 x574003 x574004)
end
def impl_Head_failure.f (k : Nat) (l0_0 : List (S154)) (l0_1 : List Int) (l0_2 : List Int) (a0_3 : Int) (a0_4 : Int) (l1 : List (S106)) : Option (Int × Int) := impl_Head_failure.l0 k l1 l0_1 (l0_1.length : Int) 0 l0_0 l0_1 l0_2 a0_3 a0_4
set_option maxHeartbeats 8000000 in
set_option maxRecDepth 100000 in
theorem impl_Head_failure.calls (k : Nat) (A0_0 : Option Addr) (c0_0 : Nat) (l0_0 : List (S154)) (A0_1 : Option Addr) (c0_1 : Nat) (l0_1 : List Int) (A0_2 : Option Addr) (c0_2 : Nat) (l0_2 : List Int) (a0_3 : Int) (a0_4 : Int) (A1 : Option Addr) (c1 : Nat) (l1 : List (S106)) (r1 : Int) (r2 : Int) (w : World) (hr0_0 : Kd.C k154 w A0_0 l0_0.length l0_0) (hc0_0 : l0_0.length ≤ c0_0) (hr0_1 : Kd.C (Kd.int .i64) w A0_1 l0_1.length l0_1) (hc0_1 : l0_1.length ≤ c0_1) (hr0_2 : Kd.C (Kd.int .i64) w A0_2 l0_2.length l0_2) (hc0_2 : l0_2.length ≤ c0_2) (hr1 : Kd.C k106 w A1 l1.length l1) (hc1 : l1.length ≤ c1) (h : impl_Head_failure.f k l0_0 l0_1 l0_2 a0_3 a0_4 l1 = some (r1, r2)) :
  Calls Try.prog 98 #[.agg #[.slice A0_0 l0_0.length c0_0, .slice A0_1 l0_1.length c0_1, .slice A0_2 l0_2.length c0_2, .int .i64 a0_3, .int .i64 a0_4], .slice A1 l1.length c1] w fun e w' => e = .returned (.tuple #[.int .i64 r1, .int .i64 r2]) ∧ Below w.heap.size w w' := by
 have hu33 := Try.underlying33
 have hu154 := Try.underlying154
 have HR0_0 := Aside0.mk hr0_0
 have HC0_0 := Aside0.mk hc0_0
 clear hr0_0 hc0_0
 have HR0_1 := Aside0.mk hr0_1
 have HC0_1 := Aside0.mk hc0_1
 clear hr0_1 hc0_1
 have HR0_2 := Aside0.mk hr0_2
 have HC0_2 := Aside0.mk hc0_2
 clear hr0_2 hc0_2
 have HR1 := Aside0.mk hr1
 have HC1 := Aside0.mk hc1
 clear hr1 hc1
 have HB := Aside0.mk (Below.refl w.heap.size w)
 have H : (impl_Head_failure.l0 k l1 l0_1 (l0_1.length : Int) 0 l0_0 l0_1 l0_2 a0_3 a0_4) = some (r1, r2) := h
 clear h
 have H' := Aside0.mk H
 clear H
 go_enter Try.func98, Try.ntmps98
 go_wp2_with (first | ((with_reducible refine gate_dst (N := 2) rfl ?_); refine box_event ?hg (N := 2) ?hd (cs := #[.slice A0_0 l0_0.length c0_0, .slice A0_1 l0_1.length c0_1, .slice A0_2 l0_2.length c0_2, .int .i64 a0_3, .int .i64 a0_4]) (t := 33) ?hr ?_; (case hd => rfl); (case hg => rfl); (case hr => first | (go_simp; done) | (go_simp; rfl)); intro gb573 hg w3 hbox hb; have n0_ := Aside0.mk (below_step (by repeat (first | (with_reducible first | exact HB.out | apply below_alloc | apply pw_below_drewN | apply below_drew1) | exact HB.out)) hb); have n1_ := Aside0.mk (hbox); have n2_ := Aside0.mk ((by rw [hg]; exact (below_size (by repeat (first | (with_reducible first | exact HB.out | apply below_alloc | apply pw_below_drewN | apply below_drew1) | exact HB.out))) : w.heap.size ≤ gb573)); have n3_ := Aside0.mk ((by rw [hg]; exact (below_size (by repeat (first | (with_reducible first | exact HB.out | apply below_alloc | apply pw_below_drewN | apply below_drew1) | exact HB.out))) : w.heap.size ≤ gb573)); clear HB; have HB := n0_; have BK573 := n1_; have GW573 := n2_; have GE573 := n3_; clear n0_ n1_ n2_ n3_; clear hb hbox hg; have hcz4_0 : w3.cell? ⟨gb573, 0, none⟩ = some (.slice A0_0 l0_0.length c0_0) := (blk_cell BK573.out 0).trans rfl; have hcz4_1 : w3.cell? ⟨gb573, 1, none⟩ = some (.slice A0_1 l0_1.length c0_1) := (blk_cell BK573.out 1).trans rfl; have hcz4_2 : w3.cell? ⟨gb573, 2, none⟩ = some (.slice A0_2 l0_2.length c0_2) := (blk_cell BK573.out 2).trans rfl; have hcz4_3 : w3.cell? ⟨gb573, 3, none⟩ = some (.int .i64 a0_3) := (blk_cell BK573.out 3).trans rfl; have hcz4_4 : w3.cell? ⟨gb573, 4, none⟩ = some (.int .i64 a0_4) := (blk_cell BK573.out 4).trans rfl; have hfz4_0 := blk_frozen BK573.out 0; have hfz4_1 := blk_frozen BK573.out 1; have hfz4_2 := blk_frozen BK573.out 2; have hfz4_3 := blk_frozen BK573.out 3; have hfz4_4 := blk_frozen BK573.out 4))
 repeat (go_quiet (first | ((with_reducible refine gate_dst (N := 2) rfl ?_); refine box_event ?hg (N := 2) ?hd (cs := #[.slice A0_0 l0_0.length c0_0, .slice A0_1 l0_1.length c0_1, .slice A0_2 l0_2.length c0_2, .int .i64 a0_3, .int .i64 a0_4]) (t := 33) ?hr ?_; (case hd => rfl); (case hg => rfl); (case hr => first | (go_simp; done) | (go_simp; rfl)); intro gb573 hg w3 hbox hb; have n0_ := Aside0.mk (below_step (by repeat (first | (with_reducible first | exact HB.out | apply below_alloc | apply pw_below_drewN | apply below_drew1) | exact HB.out)) hb); have n1_ := Aside0.mk (hbox); have n2_ := Aside0.mk ((by rw [hg]; exact (below_size (by repeat (first | (with_reducible first | exact HB.out | apply below_alloc | apply pw_below_drewN | apply below_drew1) | exact HB.out))) : w.heap.size ≤ gb573)); have n3_ := Aside0.mk ((by rw [hg]; exact (below_size (by repeat (first | (with_reducible first | exact HB.out | apply below_alloc | apply pw_below_drewN | apply below_drew1) | exact HB.out))) : w.heap.size ≤ gb573)); clear HB; have HB := n0_; have BK573 := n1_; have GW573 := n2_; have GE573 := n3_; clear n0_ n1_ n2_ n3_; clear hb hbox hg; have hcz4_0 : w3.cell? ⟨gb573, 0, none⟩ = some (.slice A0_0 l0_0.length c0_0) := (blk_cell BK573.out 0).trans rfl; have hcz4_1 : w3.cell? ⟨gb573, 1, none⟩ = some (.slice A0_1 l0_1.length c0_1) := (blk_cell BK573.out 1).trans rfl; have hcz4_2 : w3.cell? ⟨gb573, 2, none⟩ = some (.slice A0_2 l0_2.length c0_2) := (blk_cell BK573.out 2).trans rfl; have hcz4_3 : w3.cell? ⟨gb573, 3, none⟩ = some (.int .i64 a0_3) := (blk_cell BK573.out 3).trans rfl; have hcz4_4 : w3.cell? ⟨gb573, 4, none⟩ = some (.int .i64 a0_4) := (blk_cell BK573.out 4).trans rfl; have hfz4_0 := blk_frozen BK573.out 0; have hfz4_1 := blk_frozen BK573.out 1; have hfz4_2 := blk_frozen BK573.out 2; have hfz4_3 := blk_frozen BK573.out 3; have hfz4_4 := blk_frozen BK573.out 4)); try go_wp2_with (first | ((with_reducible refine gate_dst (N := 2) rfl ?_); refine box_event ?hg (N := 2) ?hd (cs := #[.slice A0_0 l0_0.length c0_0, .slice A0_1 l0_1.length c0_1, .slice A0_2 l0_2.length c0_2, .int .i64 a0_3, .int .i64 a0_4]) (t := 33) ?hr ?_; (case hd => rfl); (case hg => rfl); (case hr => first | (go_simp; done) | (go_simp; rfl)); intro gb573 hg w3 hbox hb; have n0_ := Aside0.mk (below_step (by repeat (first | (with_reducible first | exact HB.out | apply below_alloc | apply pw_below_drewN | apply below_drew1) | exact HB.out)) hb); have n1_ := Aside0.mk (hbox); have n2_ := Aside0.mk ((by rw [hg]; exact (below_size (by repeat (first | (with_reducible first | exact HB.out | apply below_alloc | apply pw_below_drewN | apply below_drew1) | exact HB.out))) : w.heap.size ≤ gb573)); have n3_ := Aside0.mk ((by rw [hg]; exact (below_size (by repeat (first | (with_reducible first | exact HB.out | apply below_alloc | apply pw_below_drewN | apply below_drew1) | exact HB.out))) : w.heap.size ≤ gb573)); clear HB; have HB := n0_; have BK573 := n1_; have GW573 := n2_; have GE573 := n3_; clear n0_ n1_ n2_ n3_; clear hb hbox hg; have hcz4_0 : w3.cell? ⟨gb573, 0, none⟩ = some (.slice A0_0 l0_0.length c0_0) := (blk_cell BK573.out 0).trans rfl; have hcz4_1 : w3.cell? ⟨gb573, 1, none⟩ = some (.slice A0_1 l0_1.length c0_1) := (blk_cell BK573.out 1).trans rfl; have hcz4_2 : w3.cell? ⟨gb573, 2, none⟩ = some (.slice A0_2 l0_2.length c0_2) := (blk_cell BK573.out 2).trans rfl; have hcz4_3 : w3.cell? ⟨gb573, 3, none⟩ = some (.int .i64 a0_3) := (blk_cell BK573.out 3).trans rfl; have hcz4_4 : w3.cell? ⟨gb573, 4, none⟩ = some (.int .i64 a0_4) := (blk_cell BK573.out 4).trans rfl; have hfz4_0 := blk_frozen BK573.out 0; have hfz4_1 := blk_frozen BK573.out 1; have hfz4_2 := blk_frozen BK573.out 2; have hfz4_3 := blk_frozen BK573.out 3; have hfz4_4 := blk_frozen BK573.out 4)))
 go_loopg [14] k (fun kq v14 w' => ∃ (x14_1 : Int), v14 = .int .i64 x14_1 ∧ Aside0 (impl_Head_failure.l0 kq l1 l0_1 (l0_1.length : Int) x14_1 l0_0 l0_1 l0_2 a0_3 a0_4 = some (r1, r2)) ∧ Aside0 (kq ≤ k) ∧ Aside0 (w'.heap[gb573]? = some (.cells #[(.slice A0_0 l0_0.length c0_0), (.slice A0_1 l0_1.length c0_1), (.slice A0_2 l0_2.length c0_2), .int .i64 a0_3, .int .i64 a0_4] 33 (0, 0))) ∧ Aside0 (Below w.heap.size w w'))
 case atStart => exact ⟨(0), (by first | rfl | (simp; done) | (simp [*]; done) | (simp [Int.tdiv_eq_ediv_of_nonneg, *]; done)), H', ⟨Nat.le_refl _⟩, ⟨by (with_reducible repeat (first | refine blk_drewN ?_ _ | refine blk_drew ?_ | refine blk_alloc ?_ _)); exact BK573.out⟩, ⟨by repeat (first | (with_reducible first | exact HB.out | apply below_alloc | apply pw_below_drewN | apply below_drew1 | refine below_set ?_ GE573.out) | exact HB.out)⟩⟩
 case round =>
  clear H'
  try clear c1
  try clear p2
  try clear hcz4_0
  try clear hcz4_1
  try clear hcz4_2
  try clear hcz4_3
  try clear hcz4_4
  try clear hfz4_0
  try clear hfz4_1
  try clear hfz4_2
  try clear hfz4_3
  try clear hfz4_4
  obtain ⟨x14_1, rfl, HA, HK1, BK573, HB⟩ := hrel
  cases gk with
  | zero => exact absurd HA.out (by simp [impl_Head_failure.l0])
  | succ k1 =>
   have H := HA.out
   clear HA
   simp only [impl_Head_failure.l0] at H
   by_cases c5 : x14_1 < (l0_1.length : Int)
   ·rw [if_pos c5] at H
    have c5b0 : decide (x14_1 < (l0_1.length : Int)) = true := decide_eq_true c5
    clear c5
    by_cases c6 : 0 ≤ x14_1
    ·rw [if_pos c6] at H
     have c6b0 : decide (0 ≤ x14_1) = true := decide_eq_true c6
     clear c6
     by_cases c7 : x14_1 < (l0_1.length : Int)
     ·rw [if_pos c7] at H
      have c7b0 : decide (x14_1 < (l0_1.length : Int)) = true := decide_eq_true c7
      clear c7
      replace H := Option.bind_eq_some_iff.mp H
      obtain ⟨t575, A80, H⟩ := H
      replace H : (impl_Head_failure.l1 k1 l1 x14_1 (rd l0_1 x14_1) t575 l0_1 (l0_1.length : Int) x14_1 l0_0 (l0_0.length : Int) 0 l0_0 l0_1 l0_2 a0_3 a0_4) = some (r1, r2) := H
      have A8 := Aside0.mk A80
      clear A80
      have H' := Aside0.mk H
      clear H
      have p574 : 0 ≤ (x14_1 : Int) := of_decide_eq_true (by assumption)
      have q574 : x14_1 < (l0_1.length : Int) := of_decide_eq_true (by assumption)
      obtain ⟨ad574, e574, hx574_0⟩ := Kd.at_int HR0_1.out x14_1 p574 q574
      cases e574
      replace hx574_0 := (HB.out.cell (World.block_lt_of_cell? w _ hx574_0)).trans hx574_0
      replace p574 := eq_true p574
      replace q574 := eq_true q574
      have hcz9_0 : wr.cell? ⟨gb573, 0, none⟩ = some (.slice A0_0 l0_0.length c0_0) := (blk_cell BK573.out 0).trans rfl
      have hcz9_1 : wr.cell? ⟨gb573, 1, none⟩ = some (.slice (some ad574) l0_1.length c0_1) := (blk_cell BK573.out 1).trans rfl
      have hcz9_2 : wr.cell? ⟨gb573, 2, none⟩ = some (.slice A0_2 l0_2.length c0_2) := (blk_cell BK573.out 2).trans rfl
      have hcz9_3 : wr.cell? ⟨gb573, 3, none⟩ = some (.int .i64 a0_3) := (blk_cell BK573.out 3).trans rfl
      have hcz9_4 : wr.cell? ⟨gb573, 4, none⟩ = some (.int .i64 a0_4) := (blk_cell BK573.out 4).trans rfl
      have hfz9_0 := blk_frozen BK573.out 0
      have hfz9_1 := blk_frozen BK573.out 1
      have hfz9_2 := blk_frozen BK573.out 2
      have hfz9_3 := blk_frozen BK573.out 3
      have hfz9_4 := blk_frozen BK573.out 4
      go_wp2_with (first | (go_at_call 107; (with_reducible refine (impl_Head_worn.calls k1 _ _ l0_0 _ _ l0_1 _ _ l0_2 a0_3 a0_4 _ _ l1 x14_1 t575 _ ?side1 ?side2 ?side3 ?side4 ?side5 ?side6 ?side7 ?side8 A8.out).mono ?_); (case side1 => repeat (first | exact (Kd.C_below HR0_0.out HB.out) | (with_reducible first | refine Kd.C_alloc ?_ _ | refine Kd.C_drewN ?_ _ | refine Kd.C_drew ?_))); (case side2 => exact HC0_0.out); (case side3 => repeat (first | exact (Kd.C_below HR0_1.out HB.out) | (with_reducible first | refine Kd.C_alloc ?_ _ | refine Kd.C_drewN ?_ _ | refine Kd.C_drew ?_))); (case side4 => exact HC0_1.out); (case side5 => repeat (first | exact (Kd.C_below HR0_2.out HB.out) | (with_reducible first | refine Kd.C_alloc ?_ _ | refine Kd.C_drewN ?_ _ | refine Kd.C_drew ?_))); (case side6 => exact HC0_2.out); (case side7 => repeat (first | exact (Kd.C_below HR1.out HB.out) | (with_reducible first | refine Kd.C_alloc ?_ _ | refine Kd.C_drewN ?_ _ | refine Kd.C_drew ?_))); (case side8 => exact HC1.out); rintro e w10 ⟨v576, rfl, ho0, hb⟩; have n0_ := Aside0.mk (Kd.R_lower ho0 (below_size (by repeat (first | (with_reducible first | exact HB.out | apply below_alloc | apply pw_below_drewN | apply below_drew1 | refine below_set ?_ GE573.out) | exact HB.out)))); have n1_ := Aside0.mk (blk_below (g := gb573) (o := .cells #[.slice A0_0 l0_0.length c0_0, .slice (some ad574) l0_1.length c0_1, .slice A0_2 l0_2.length c0_2, .int .i64 a0_3, .int .i64 a0_4] 33 (0, 0)) (by (with_reducible repeat (first | refine blk_drewN ?_ _ | refine blk_drew ?_ | refine blk_alloc ?_ _)); exact BK573.out) hb); have n2_ := Aside0.mk (below_step (by repeat (first | (with_reducible first | exact HB.out | apply below_alloc | apply pw_below_drewN | apply below_drew1 | refine below_set ?_ GE573.out) | exact HB.out)) hb); clear BK573; clear HB; have HO577 := n0_; have BK573 := n1_; have HB := n2_; clear n0_ n1_ n2_; (try clear hb); (try clear hb2); (try clear hk); (try clear hi); (try clear ho0); have hcz11_0 : w10.cell? ⟨gb573, 0, none⟩ = some (.slice A0_0 l0_0.length c0_0) := (blk_cell BK573.out 0).trans rfl; have hcz11_1 : w10.cell? ⟨gb573, 1, none⟩ = some (.slice (some ad574) l0_1.length c0_1) := (blk_cell BK573.out 1).trans rfl; have hcz11_2 : w10.cell? ⟨gb573, 2, none⟩ = some (.slice A0_2 l0_2.length c0_2) := (blk_cell BK573.out 2).trans rfl; have hcz11_3 : w10.cell? ⟨gb573, 3, none⟩ = some (.int .i64 a0_3) := (blk_cell BK573.out 3).trans rfl; have hcz11_4 : w10.cell? ⟨gb573, 4, none⟩ = some (.int .i64 a0_4) := (blk_cell BK573.out 4).trans rfl; have hfz11_0 := blk_frozen BK573.out 0; have hfz11_1 := blk_frozen BK573.out 1; have hfz11_2 := blk_frozen BK573.out 2; have hfz11_3 := blk_frozen BK573.out 3; have hfz11_4 := blk_frozen BK573.out 4))
      repeat (go_quiet (first | (go_at_call 107; (with_reducible refine (impl_Head_worn.calls k1 _ _ l0_0 _ _ l0_1 _ _ l0_2 a0_3 a0_4 _ _ l1 x14_1 t575 _ ?side1 ?side2 ?side3 ?side4 ?side5 ?side6 ?side7 ?side8 A8.out).mono ?_); (case side1 => repeat (first | exact (Kd.C_below HR0_0.out HB.out) | (with_reducible first | refine Kd.C_alloc ?_ _ | refine Kd.C_drewN ?_ _ | refine Kd.C_drew ?_))); (case side2 => exact HC0_0.out); (case side3 => repeat (first | exact (Kd.C_below HR0_1.out HB.out) | (with_reducible first | refine Kd.C_alloc ?_ _ | refine Kd.C_drewN ?_ _ | refine Kd.C_drew ?_))); (case side4 => exact HC0_1.out); (case side5 => repeat (first | exact (Kd.C_below HR0_2.out HB.out) | (with_reducible first | refine Kd.C_alloc ?_ _ | refine Kd.C_drewN ?_ _ | refine Kd.C_drew ?_))); (case side6 => exact HC0_2.out); (case side7 => repeat (first | exact (Kd.C_below HR1.out HB.out) | (with_reducible first | refine Kd.C_alloc ?_ _ | refine Kd.C_drewN ?_ _ | refine Kd.C_drew ?_))); (case side8 => exact HC1.out); rintro e w10 ⟨v576, rfl, ho0, hb⟩; have n0_ := Aside0.mk (Kd.R_lower ho0 (below_size (by repeat (first | (with_reducible first | exact HB.out | apply below_alloc | apply pw_below_drewN | apply below_drew1 | refine below_set ?_ GE573.out) | exact HB.out)))); have n1_ := Aside0.mk (blk_below (g := gb573) (o := .cells #[.slice A0_0 l0_0.length c0_0, .slice (some ad574) l0_1.length c0_1, .slice A0_2 l0_2.length c0_2, .int .i64 a0_3, .int .i64 a0_4] 33 (0, 0)) (by (with_reducible repeat (first | refine blk_drewN ?_ _ | refine blk_drew ?_ | refine blk_alloc ?_ _)); exact BK573.out) hb); have n2_ := Aside0.mk (below_step (by repeat (first | (with_reducible first | exact HB.out | apply below_alloc | apply pw_below_drewN | apply below_drew1 | refine below_set ?_ GE573.out) | exact HB.out)) hb); clear BK573; clear HB; have HO577 := n0_; have BK573 := n1_; have HB := n2_; clear n0_ n1_ n2_; (try clear hb); (try clear hb2); (try clear hk); (try clear hi); (try clear ho0); have hcz11_0 : w10.cell? ⟨gb573, 0, none⟩ = some (.slice A0_0 l0_0.length c0_0) := (blk_cell BK573.out 0).trans rfl; have hcz11_1 : w10.cell? ⟨gb573, 1, none⟩ = some (.slice (some ad574) l0_1.length c0_1) := (blk_cell BK573.out 1).trans rfl; have hcz11_2 : w10.cell? ⟨gb573, 2, none⟩ = some (.slice A0_2 l0_2.length c0_2) := (blk_cell BK573.out 2).trans rfl; have hcz11_3 : w10.cell? ⟨gb573, 3, none⟩ = some (.int .i64 a0_3) := (blk_cell BK573.out 3).trans rfl; have hcz11_4 : w10.cell? ⟨gb573, 4, none⟩ = some (.int .i64 a0_4) := (blk_cell BK573.out 4).trans rfl; have hfz11_0 := blk_frozen BK573.out 0; have hfz11_1 := blk_frozen BK573.out 1; have hfz11_2 := blk_frozen BK573.out 2; have hfz11_3 := blk_frozen BK573.out 3; have hfz11_4 := blk_frozen BK573.out 4)); try go_wp2_with (first | (go_at_call 107; (with_reducible refine (impl_Head_worn.calls k1 _ _ l0_0 _ _ l0_1 _ _ l0_2 a0_3 a0_4 _ _ l1 x14_1 t575 _ ?side1 ?side2 ?side3 ?side4 ?side5 ?side6 ?side7 ?side8 A8.out).mono ?_); (case side1 => repeat (first | exact (Kd.C_below HR0_0.out HB.out) | (with_reducible first | refine Kd.C_alloc ?_ _ | refine Kd.C_drewN ?_ _ | refine Kd.C_drew ?_))); (case side2 => exact HC0_0.out); (case side3 => repeat (first | exact (Kd.C_below HR0_1.out HB.out) | (with_reducible first | refine Kd.C_alloc ?_ _ | refine Kd.C_drewN ?_ _ | refine Kd.C_drew ?_))); (case side4 => exact HC0_1.out); (case side5 => repeat (first | exact (Kd.C_below HR0_2.out HB.out) | (with_reducible first | refine Kd.C_alloc ?_ _ | refine Kd.C_drewN ?_ _ | refine Kd.C_drew ?_))); (case side6 => exact HC0_2.out); (case side7 => repeat (first | exact (Kd.C_below HR1.out HB.out) | (with_reducible first | refine Kd.C_alloc ?_ _ | refine Kd.C_drewN ?_ _ | refine Kd.C_drew ?_))); (case side8 => exact HC1.out); rintro e w10 ⟨v576, rfl, ho0, hb⟩; have n0_ := Aside0.mk (Kd.R_lower ho0 (below_size (by repeat (first | (with_reducible first | exact HB.out | apply below_alloc | apply pw_below_drewN | apply below_drew1 | refine below_set ?_ GE573.out) | exact HB.out)))); have n1_ := Aside0.mk (blk_below (g := gb573) (o := .cells #[.slice A0_0 l0_0.length c0_0, .slice (some ad574) l0_1.length c0_1, .slice A0_2 l0_2.length c0_2, .int .i64 a0_3, .int .i64 a0_4] 33 (0, 0)) (by (with_reducible repeat (first | refine blk_drewN ?_ _ | refine blk_drew ?_ | refine blk_alloc ?_ _)); exact BK573.out) hb); have n2_ := Aside0.mk (below_step (by repeat (first | (with_reducible first | exact HB.out | apply below_alloc | apply pw_below_drewN | apply below_drew1 | refine below_set ?_ GE573.out) | exact HB.out)) hb); clear BK573; clear HB; have HO577 := n0_; have BK573 := n1_; have HB := n2_; clear n0_ n1_ n2_; (try clear hb); (try clear hb2); (try clear hk); (try clear hi); (try clear ho0); have hcz11_0 : w10.cell? ⟨gb573, 0, none⟩ = some (.slice A0_0 l0_0.length c0_0) := (blk_cell BK573.out 0).trans rfl; have hcz11_1 : w10.cell? ⟨gb573, 1, none⟩ = some (.slice (some ad574) l0_1.length c0_1) := (blk_cell BK573.out 1).trans rfl; have hcz11_2 : w10.cell? ⟨gb573, 2, none⟩ = some (.slice A0_2 l0_2.length c0_2) := (blk_cell BK573.out 2).trans rfl; have hcz11_3 : w10.cell? ⟨gb573, 3, none⟩ = some (.int .i64 a0_3) := (blk_cell BK573.out 3).trans rfl; have hcz11_4 : w10.cell? ⟨gb573, 4, none⟩ = some (.int .i64 a0_4) := (blk_cell BK573.out 4).trans rfl; have hfz11_0 := blk_frozen BK573.out 0; have hfz11_1 := blk_frozen BK573.out 1; have hfz11_2 := blk_frozen BK573.out 2; have hfz11_3 := blk_frozen BK573.out 3; have hfz11_4 := blk_frozen BK573.out 4)))
      go_loopg [26] k1 (fun kq v26 w' => ∃ (x26_2 : Int), v26 = .int .i64 x26_2 ∧ Aside0 (impl_Head_failure.l1 kq l1 x14_1 (rd l0_1 x14_1) t575 l0_1 (l0_1.length : Int) x14_1 l0_0 (l0_0.length : Int) x26_2 l0_0 l0_1 l0_2 a0_3 a0_4 = some (r1, r2)) ∧ Aside0 (kq ≤ k1) ∧ Aside0 (Kd.R (Kd.int .i64) 2 w' w.heap.size (fun _ => True) v576 t575) ∧ Aside0 (w'.heap[gb573]? = some (.cells #[(.slice A0_0 l0_0.length c0_0), (.slice (some ad574) l0_1.length c0_1), (.slice A0_2 l0_2.length c0_2), .int .i64 a0_3, .int .i64 a0_4] 33 (0, 0))) ∧ Aside0 (Below w.heap.size w w'))
      case atStart => exact ⟨(0), (by first | rfl | (simp; done) | (simp [*]; done) | (simp [Int.tdiv_eq_ediv_of_nonneg, *]; done)), H', ⟨Nat.le_refl _⟩, ⟨by (with_reducible repeat (first | apply Kd.R_alloc | apply Kd.R_drewN | apply Kd.R_drew)); exact HO577.out⟩, ⟨by (with_reducible repeat (first | refine blk_drewN ?_ _ | refine blk_drew ?_ | refine blk_alloc ?_ _)); exact BK573.out⟩, ⟨by repeat (first | (with_reducible first | exact HB.out | apply below_alloc | apply pw_below_drewN | apply below_drew1 | refine below_set ?_ GE573.out) | exact HB.out)⟩⟩
      case round =>
       clear H'
       try clear c1
       try clear p2
       try clear c5
       try clear c5b0
       try clear p5
       try clear q5
       try clear hx5
       try clear c6
       try clear c6b0
       try clear c7
       try clear c7b0
       try clear c9
       try clear hcz11_0
       try clear hcz11_1
       try clear hcz11_2
       try clear hcz11_3
       try clear hcz11_4
       try clear hcz4_0
       try clear hcz4_1
       try clear hcz4_2
       try clear hcz4_3
       try clear hcz4_4
       try clear hcz9_0
       try clear hcz9_1
       try clear hcz9_2
       try clear hcz9_3
       try clear hcz9_4
       try clear hfz11_0
       try clear hfz11_1
       try clear hfz11_2
       try clear hfz11_3
       try clear hfz11_4
       try clear hfz4_0
       try clear hfz4_1
       try clear hfz4_2
       try clear hfz4_3
       try clear hfz4_4
       try clear hfz9_0
       try clear hfz9_1
       try clear hfz9_2
       try clear hfz9_3
       try clear hfz9_4
       try clear hx574_0
       try clear p2
       try clear p574
       try clear q574
       obtain ⟨x26_2, rfl, HA, HK2, HO_8, BK573, HB⟩ := hrel
       cases gk with
       | zero => exact absurd HA.out (by simp [impl_Head_failure.l1])
       | succ k2 =>
        have H := HA.out
        clear HA
        simp only [impl_Head_failure.l1] at H
        by_cases c12 : x26_2 < (l0_0.length : Int)
        ·rw [if_pos c12] at H
         have c12b0 : decide (x26_2 < (l0_0.length : Int)) = true := decide_eq_true c12
         clear c12
         by_cases c13 : 0 ≤ x26_2
         ·rw [if_pos c13] at H
          have c13b0 : decide (0 ≤ x26_2) = true := decide_eq_true c13
          clear c13
          by_cases c14 : x26_2 < (l0_0.length : Int)
          ·rw [if_pos c14] at H
           have c14b0 : decide (x26_2 < (l0_0.length : Int)) = true := decide_eq_true c14
           clear c14
           by_cases c15 : x26_2 < (t575.length : Int)
           ·rw [if_pos c15] at H
            have c15b0 : decide (x26_2 < (t575.length : Int)) = true := decide_eq_true c15
            clear c15
            by_cases c16 : (wrap64 ((rd t575 x26_2) + (wrap64 (((rd_T154 l0_0 x26_2).f0) * (rd l0_1 x14_1))))) > ((rd_T154 l0_0 x26_2).f1)
            ·rw [if_pos c16] at H
             have c16b0 : decide (((rd_T154 l0_0 x26_2).f1) < (wrap64 ((rd t575 x26_2) + (wrap64 (((rd_T154 l0_0 x26_2).f0) * (rd l0_1 x14_1)))))) = true := decide_eq_true c16
             clear c16
             simp only [Option.some.injEq, Prod.mk.injEq] at H
             obtain ⟨rfl, rfl⟩ := H
             have p578 : 0 ≤ (x26_2 : Int) := of_decide_eq_true (by assumption)
             have q578 : x26_2 < (l0_0.length : Int) := of_decide_eq_true (by assumption)
             obtain ⟨ad578, e578, hx578_0, hx578_1⟩ := at_T154 HR0_0.out x26_2 p578 q578
             cases e578
             replace hx578_0 := (HB.out.cell (World.block_lt_of_cell? w _ hx578_0)).trans hx578_0
             replace hx578_1 := (HB.out.cell (World.block_lt_of_cell? w _ hx578_1)).trans hx578_1
             replace p578 := eq_true p578
             replace q578 := eq_true q578
             go_wp2_with (first | ((with_reducible refine gate_dst (N := 10) rfl ?_); refine box_event ?hg (N := 10) ?hd (cs := #[.int .i64 0, .int .i64 0]) (t := 154) ?hr ?_; (case hd => rfl); (case hg => rfl); (case hr => first | (go_simp; done) | (go_simp; rfl)); intro gb579 hg w17 hbox hb; have n0_ := Aside0.mk (Kd.R_below (by (with_reducible repeat (first | apply Kd.R_alloc | apply Kd.R_drewN | apply Kd.R_drew)); exact HO_8.out) hb); have n1_ := Aside0.mk (blk_below (g := gb573) (o := .cells #[.slice (some ad578) l0_0.length c0_0, .slice (some ad574) l0_1.length c0_1, .slice A0_2 l0_2.length c0_2, .int .i64 a0_3, .int .i64 a0_4] 33 (0, 0)) (by (with_reducible repeat (first | refine blk_drewN ?_ _ | refine blk_drew ?_ | refine blk_alloc ?_ _)); exact BK573.out) hb); have n2_ := Aside0.mk (below_step (by repeat (first | (with_reducible first | exact HB.out | apply below_alloc | apply pw_below_drewN | apply below_drew1 | refine below_set ?_ GE573.out) | exact HB.out)) hb); have n3_ := Aside0.mk (hbox); have n4_ := Aside0.mk ((by rw [hg]; exact (below_size (by repeat (first | (with_reducible first | exact HB.out | apply below_alloc | apply pw_below_drewN | apply below_drew1 | refine below_set ?_ GE573.out) | exact HB.out))) : w.heap.size ≤ gb579)); have n5_ := Aside0.mk ((by rw [hg]; exact (below_size (by repeat (first | (with_reducible first | exact HB.out | apply below_alloc | apply pw_below_drewN | apply below_drew1 | refine below_set ?_ GE573.out) | exact HB.out))) : w.heap.size ≤ gb579)); have n6_ := Aside0.mk ((by rw [hg]; exact Nat.ne_of_lt (blk_lt (g := gb573) (o := .cells #[.slice (some ad578) l0_0.length c0_0, .slice (some ad574) l0_1.length c0_1, .slice A0_2 l0_2.length c0_2, .int .i64 a0_3, .int .i64 a0_4] 33 (0, 0)) (by (with_reducible repeat (first | refine blk_drewN ?_ _ | refine blk_drew ?_ | refine blk_alloc ?_ _)); exact BK573.out)) : gb573 ≠ gb579)); have n7_ := Aside0.mk ((by rw [hg]; exact Nat.ne_of_gt (blk_lt (g := gb573) (o := .cells #[.slice (some ad578) l0_0.length c0_0, .slice (some ad574) l0_1.length c0_1, .slice A0_2 l0_2.length c0_2, .int .i64 a0_3, .int .i64 a0_4] 33 (0, 0)) (by (with_reducible repeat (first | refine blk_drewN ?_ _ | refine blk_drew ?_ | refine blk_alloc ?_ _)); exact BK573.out)) : gb579 ≠ gb573)); clear HO_8; clear BK573; clear HB; have HO_8 := n0_; have BK573 := n1_; have HB := n2_; have BK579 := n3_; have GW579 := n4_; have GE579 := n5_; have NB573_579 := n6_; have NB579_573 := n7_; clear n0_ n1_ n2_ n3_ n4_ n5_ n6_ n7_; clear hb hbox hg; have hnb18 := NB579_573.out; have hnc18 := NB573_579.out; have hcz19_0 : w17.cell? ⟨gb579, 0, none⟩ = some (.int .i64 0) := (blk_cell BK579.out 0).trans rfl; have hcz19_1 : w17.cell? ⟨gb579, 1, none⟩ = some (.int .i64 0) := (blk_cell BK579.out 1).trans rfl; have hfz19_0 := blk_frozen BK579.out 0; have hfz19_1 := blk_frozen BK579.out 1; obtain ⟨Ao20, co20, eo20⟩ := Kd.R_slice HO_8.out; subst eo20; have p580 : 0 ≤ (x26_2 : Int) := of_decide_eq_true (by assumption); have q580 : x26_2 < (t575.length : Int) := of_decide_eq_true (by assumption); obtain ⟨ad580, e580, hx580_0⟩ := Kd.at_int (Kd.R_reads' HO_8.out).2.2 x26_2 p580 q580; cases e580; have hn580_0 : ad580.block ≠ gb579 := Kd.own_blk (Kd.R_ne HO_8.out BK579.out (by decide)); have hn580_1 : ad580.block ≠ gb579 := Kd.own_blk (Kd.R_ne HO_8.out BK579.out (by decide)); replace hx580_0 := (cell_far (p := ⟨gb579, 0, none⟩) (by first | (rw [add_block]; exact hn580_0) | (show (Addr.add _ _).block ≠ _; rw [add_block]; exact hn580_0) | exact hn580_0) (.int .i64 ((rd_T154 l0_0 x26_2).f0))).trans hx580_0; replace hx580_0 := (cell_far (p := ⟨gb579, 1, none⟩) (by first | (rw [add_block]; exact hn580_1) | (show (Addr.add _ _).block ≠ _; rw [add_block]; exact hn580_1) | exact hn580_1) (.int .i64 ((rd_T154 l0_0 x26_2).f1))).trans hx580_0; (try have hy580_0 := fun (n_ : Nat) => (show ((((w17.drewN n_).setCell ⟨gb579, 0, none⟩ (.int .i64 ((rd_T154 l0_0 x26_2).f0))).setCell ⟨gb579, 1, none⟩ (.int .i64 ((rd_T154 l0_0 x26_2).f1)))).cell? _ = some _ from hx580_0)); clear hn580_0; clear hn580_1; replace p580 := eq_true p580; replace q580 := eq_true q580))
             repeat (go_quiet (first | ((with_reducible refine gate_dst (N := 10) rfl ?_); refine box_event ?hg (N := 10) ?hd (cs := #[.int .i64 0, .int .i64 0]) (t := 154) ?hr ?_; (case hd => rfl); (case hg => rfl); (case hr => first | (go_simp; done) | (go_simp; rfl)); intro gb579 hg w17 hbox hb; have n0_ := Aside0.mk (Kd.R_below (by (with_reducible repeat (first | apply Kd.R_alloc | apply Kd.R_drewN | apply Kd.R_drew)); exact HO_8.out) hb); have n1_ := Aside0.mk (blk_below (g := gb573) (o := .cells #[.slice (some ad578) l0_0.length c0_0, .slice (some ad574) l0_1.length c0_1, .slice A0_2 l0_2.length c0_2, .int .i64 a0_3, .int .i64 a0_4] 33 (0, 0)) (by (with_reducible repeat (first | refine blk_drewN ?_ _ | refine blk_drew ?_ | refine blk_alloc ?_ _)); exact BK573.out) hb); have n2_ := Aside0.mk (below_step (by repeat (first | (with_reducible first | exact HB.out | apply below_alloc | apply pw_below_drewN | apply below_drew1 | refine below_set ?_ GE573.out) | exact HB.out)) hb); have n3_ := Aside0.mk (hbox); have n4_ := Aside0.mk ((by rw [hg]; exact (below_size (by repeat (first | (with_reducible first | exact HB.out | apply below_alloc | apply pw_below_drewN | apply below_drew1 | refine below_set ?_ GE573.out) | exact HB.out))) : w.heap.size ≤ gb579)); have n5_ := Aside0.mk ((by rw [hg]; exact (below_size (by repeat (first | (with_reducible first | exact HB.out | apply below_alloc | apply pw_below_drewN | apply below_drew1 | refine below_set ?_ GE573.out) | exact HB.out))) : w.heap.size ≤ gb579)); have n6_ := Aside0.mk ((by rw [hg]; exact Nat.ne_of_lt (blk_lt (g := gb573) (o := .cells #[.slice (some ad578) l0_0.length c0_0, .slice (some ad574) l0_1.length c0_1, .slice A0_2 l0_2.length c0_2, .int .i64 a0_3, .int .i64 a0_4] 33 (0, 0)) (by (with_reducible repeat (first | refine blk_drewN ?_ _ | refine blk_drew ?_ | refine blk_alloc ?_ _)); exact BK573.out)) : gb573 ≠ gb579)); have n7_ := Aside0.mk ((by rw [hg]; exact Nat.ne_of_gt (blk_lt (g := gb573) (o := .cells #[.slice (some ad578) l0_0.length c0_0, .slice (some ad574) l0_1.length c0_1, .slice A0_2 l0_2.length c0_2, .int .i64 a0_3, .int .i64 a0_4] 33 (0, 0)) (by (with_reducible repeat (first | refine blk_drewN ?_ _ | refine blk_drew ?_ | refine blk_alloc ?_ _)); exact BK573.out)) : gb579 ≠ gb573)); clear HO_8; clear BK573; clear HB; have HO_8 := n0_; have BK573 := n1_; have HB := n2_; have BK579 := n3_; have GW579 := n4_; have GE579 := n5_; have NB573_579 := n6_; have NB579_573 := n7_; clear n0_ n1_ n2_ n3_ n4_ n5_ n6_ n7_; clear hb hbox hg; have hnb18 := NB579_573.out; have hnc18 := NB573_579.out; have hcz19_0 : w17.cell? ⟨gb579, 0, none⟩ = some (.int .i64 0) := (blk_cell BK579.out 0).trans rfl; have hcz19_1 : w17.cell? ⟨gb579, 1, none⟩ = some (.int .i64 0) := (blk_cell BK579.out 1).trans rfl; have hfz19_0 := blk_frozen BK579.out 0; have hfz19_1 := blk_frozen BK579.out 1; obtain ⟨Ao20, co20, eo20⟩ := Kd.R_slice HO_8.out; subst eo20; have p580 : 0 ≤ (x26_2 : Int) := of_decide_eq_true (by assumption); have q580 : x26_2 < (t575.length : Int) := of_decide_eq_true (by assumption); obtain ⟨ad580, e580, hx580_0⟩ := Kd.at_int (Kd.R_reads' HO_8.out).2.2 x26_2 p580 q580; cases e580; have hn580_0 : ad580.block ≠ gb579 := Kd.own_blk (Kd.R_ne HO_8.out BK579.out (by decide)); have hn580_1 : ad580.block ≠ gb579 := Kd.own_blk (Kd.R_ne HO_8.out BK579.out (by decide)); replace hx580_0 := (cell_far (p := ⟨gb579, 0, none⟩) (by first | (rw [add_block]; exact hn580_0) | (show (Addr.add _ _).block ≠ _; rw [add_block]; exact hn580_0) | exact hn580_0) (.int .i64 ((rd_T154 l0_0 x26_2).f0))).trans hx580_0; replace hx580_0 := (cell_far (p := ⟨gb579, 1, none⟩) (by first | (rw [add_block]; exact hn580_1) | (show (Addr.add _ _).block ≠ _; rw [add_block]; exact hn580_1) | exact hn580_1) (.int .i64 ((rd_T154 l0_0 x26_2).f1))).trans hx580_0; (try have hy580_0 := fun (n_ : Nat) => (show ((((w17.drewN n_).setCell ⟨gb579, 0, none⟩ (.int .i64 ((rd_T154 l0_0 x26_2).f0))).setCell ⟨gb579, 1, none⟩ (.int .i64 ((rd_T154 l0_0 x26_2).f1)))).cell? _ = some _ from hx580_0)); clear hn580_0; clear hn580_1; replace p580 := eq_true p580; replace q580 := eq_true q580)); try go_wp2_with (first | ((with_reducible refine gate_dst (N := 10) rfl ?_); refine box_event ?hg (N := 10) ?hd (cs := #[.int .i64 0, .int .i64 0]) (t := 154) ?hr ?_; (case hd => rfl); (case hg => rfl); (case hr => first | (go_simp; done) | (go_simp; rfl)); intro gb579 hg w17 hbox hb; have n0_ := Aside0.mk (Kd.R_below (by (with_reducible repeat (first | apply Kd.R_alloc | apply Kd.R_drewN | apply Kd.R_drew)); exact HO_8.out) hb); have n1_ := Aside0.mk (blk_below (g := gb573) (o := .cells #[.slice (some ad578) l0_0.length c0_0, .slice (some ad574) l0_1.length c0_1, .slice A0_2 l0_2.length c0_2, .int .i64 a0_3, .int .i64 a0_4] 33 (0, 0)) (by (with_reducible repeat (first | refine blk_drewN ?_ _ | refine blk_drew ?_ | refine blk_alloc ?_ _)); exact BK573.out) hb); have n2_ := Aside0.mk (below_step (by repeat (first | (with_reducible first | exact HB.out | apply below_alloc | apply pw_below_drewN | apply below_drew1 | refine below_set ?_ GE573.out) | exact HB.out)) hb); have n3_ := Aside0.mk (hbox); have n4_ := Aside0.mk ((by rw [hg]; exact (below_size (by repeat (first | (with_reducible first | exact HB.out | apply below_alloc | apply pw_below_drewN | apply below_drew1 | refine below_set ?_ GE573.out) | exact HB.out))) : w.heap.size ≤ gb579)); have n5_ := Aside0.mk ((by rw [hg]; exact (below_size (by repeat (first | (with_reducible first | exact HB.out | apply below_alloc | apply pw_below_drewN | apply below_drew1 | refine below_set ?_ GE573.out) | exact HB.out))) : w.heap.size ≤ gb579)); have n6_ := Aside0.mk ((by rw [hg]; exact Nat.ne_of_lt (blk_lt (g := gb573) (o := .cells #[.slice (some ad578) l0_0.length c0_0, .slice (some ad574) l0_1.length c0_1, .slice A0_2 l0_2.length c0_2, .int .i64 a0_3, .int .i64 a0_4] 33 (0, 0)) (by (with_reducible repeat (first | refine blk_drewN ?_ _ | refine blk_drew ?_ | refine blk_alloc ?_ _)); exact BK573.out)) : gb573 ≠ gb579)); have n7_ := Aside0.mk ((by rw [hg]; exact Nat.ne_of_gt (blk_lt (g := gb573) (o := .cells #[.slice (some ad578) l0_0.length c0_0, .slice (some ad574) l0_1.length c0_1, .slice A0_2 l0_2.length c0_2, .int .i64 a0_3, .int .i64 a0_4] 33 (0, 0)) (by (with_reducible repeat (first | refine blk_drewN ?_ _ | refine blk_drew ?_ | refine blk_alloc ?_ _)); exact BK573.out)) : gb579 ≠ gb573)); clear HO_8; clear BK573; clear HB; have HO_8 := n0_; have BK573 := n1_; have HB := n2_; have BK579 := n3_; have GW579 := n4_; have GE579 := n5_; have NB573_579 := n6_; have NB579_573 := n7_; clear n0_ n1_ n2_ n3_ n4_ n5_ n6_ n7_; clear hb hbox hg; have hnb18 := NB579_573.out; have hnc18 := NB573_579.out; have hcz19_0 : w17.cell? ⟨gb579, 0, none⟩ = some (.int .i64 0) := (blk_cell BK579.out 0).trans rfl; have hcz19_1 : w17.cell? ⟨gb579, 1, none⟩ = some (.int .i64 0) := (blk_cell BK579.out 1).trans rfl; have hfz19_0 := blk_frozen BK579.out 0; have hfz19_1 := blk_frozen BK579.out 1; obtain ⟨Ao20, co20, eo20⟩ := Kd.R_slice HO_8.out; subst eo20; have p580 : 0 ≤ (x26_2 : Int) := of_decide_eq_true (by assumption); have q580 : x26_2 < (t575.length : Int) := of_decide_eq_true (by assumption); obtain ⟨ad580, e580, hx580_0⟩ := Kd.at_int (Kd.R_reads' HO_8.out).2.2 x26_2 p580 q580; cases e580; have hn580_0 : ad580.block ≠ gb579 := Kd.own_blk (Kd.R_ne HO_8.out BK579.out (by decide)); have hn580_1 : ad580.block ≠ gb579 := Kd.own_blk (Kd.R_ne HO_8.out BK579.out (by decide)); replace hx580_0 := (cell_far (p := ⟨gb579, 0, none⟩) (by first | (rw [add_block]; exact hn580_0) | (show (Addr.add _ _).block ≠ _; rw [add_block]; exact hn580_0) | exact hn580_0) (.int .i64 ((rd_T154 l0_0 x26_2).f0))).trans hx580_0; replace hx580_0 := (cell_far (p := ⟨gb579, 1, none⟩) (by first | (rw [add_block]; exact hn580_1) | (show (Addr.add _ _).block ≠ _; rw [add_block]; exact hn580_1) | exact hn580_1) (.int .i64 ((rd_T154 l0_0 x26_2).f1))).trans hx580_0; (try have hy580_0 := fun (n_ : Nat) => (show ((((w17.drewN n_).setCell ⟨gb579, 0, none⟩ (.int .i64 ((rd_T154 l0_0 x26_2).f0))).setCell ⟨gb579, 1, none⟩ (.int .i64 ((rd_T154 l0_0 x26_2).f1)))).cell? _ = some _ from hx580_0)); clear hn580_0; clear hn580_1; replace p580 := eq_true p580; replace q580 := eq_true q580)))
             go_ret2
             exact ⟨by first | rfl | (simp [errW_none, errW_some] <;> rfl) | (simp [*, errW_none, errW_some] <;> rfl) | (simp [Int.tdiv_eq_ediv_of_nonneg, *]; done), by repeat (first | (with_reducible first | exact HB.out | apply below_alloc | apply pw_below_drewN | apply below_drew1 | refine below_set ?_ GE573.out | refine below_set ?_ GE579.out) | exact HB.out)⟩
            ·rw [if_neg c16] at H
             have c16b0 : decide (((rd_T154 l0_0 x26_2).f1) < (wrap64 ((rd t575 x26_2) + (wrap64 (((rd_T154 l0_0 x26_2).f0) * (rd l0_1 x14_1)))))) = false := decide_eq_false c16
             clear c16
             have H' := Aside0.mk H
             clear H
             have p578 : 0 ≤ (x26_2 : Int) := of_decide_eq_true (by assumption)
             have q578 : x26_2 < (l0_0.length : Int) := of_decide_eq_true (by assumption)
             obtain ⟨ad578, e578, hx578_0, hx578_1⟩ := at_T154 HR0_0.out x26_2 p578 q578
             cases e578
             replace hx578_0 := (HB.out.cell (World.block_lt_of_cell? w _ hx578_0)).trans hx578_0
             replace hx578_1 := (HB.out.cell (World.block_lt_of_cell? w _ hx578_1)).trans hx578_1
             replace p578 := eq_true p578
             replace q578 := eq_true q578
             go_wp2_with (first | ((with_reducible refine gate_dst (N := 10) rfl ?_); refine box_event ?hg (N := 10) ?hd (cs := #[.int .i64 0, .int .i64 0]) (t := 154) ?hr ?_; (case hd => rfl); (case hg => rfl); (case hr => first | (go_simp; done) | (go_simp; rfl)); intro gb579 hg w21 hbox hb; have n0_ := Aside0.mk (Kd.R_below (by (with_reducible repeat (first | apply Kd.R_alloc | apply Kd.R_drewN | apply Kd.R_drew)); exact HO_8.out) hb); have n1_ := Aside0.mk (blk_below (g := gb573) (o := .cells #[.slice (some ad578) l0_0.length c0_0, .slice (some ad574) l0_1.length c0_1, .slice A0_2 l0_2.length c0_2, .int .i64 a0_3, .int .i64 a0_4] 33 (0, 0)) (by (with_reducible repeat (first | refine blk_drewN ?_ _ | refine blk_drew ?_ | refine blk_alloc ?_ _)); exact BK573.out) hb); have n2_ := Aside0.mk (below_step (by repeat (first | (with_reducible first | exact HB.out | apply below_alloc | apply pw_below_drewN | apply below_drew1 | refine below_set ?_ GE573.out) | exact HB.out)) hb); have n3_ := Aside0.mk (hbox); have n4_ := Aside0.mk ((by rw [hg]; exact (below_size (by repeat (first | (with_reducible first | exact HB.out | apply below_alloc | apply pw_below_drewN | apply below_drew1 | refine below_set ?_ GE573.out) | exact HB.out))) : w.heap.size ≤ gb579)); have n5_ := Aside0.mk ((by rw [hg]; exact (below_size (by repeat (first | (with_reducible first | exact HB.out | apply below_alloc | apply pw_below_drewN | apply below_drew1 | refine below_set ?_ GE573.out) | exact HB.out))) : w.heap.size ≤ gb579)); have n6_ := Aside0.mk ((by rw [hg]; exact Nat.ne_of_lt (blk_lt (g := gb573) (o := .cells #[.slice (some ad578) l0_0.length c0_0, .slice (some ad574) l0_1.length c0_1, .slice A0_2 l0_2.length c0_2, .int .i64 a0_3, .int .i64 a0_4] 33 (0, 0)) (by (with_reducible repeat (first | refine blk_drewN ?_ _ | refine blk_drew ?_ | refine blk_alloc ?_ _)); exact BK573.out)) : gb573 ≠ gb579)); have n7_ := Aside0.mk ((by rw [hg]; exact Nat.ne_of_gt (blk_lt (g := gb573) (o := .cells #[.slice (some ad578) l0_0.length c0_0, .slice (some ad574) l0_1.length c0_1, .slice A0_2 l0_2.length c0_2, .int .i64 a0_3, .int .i64 a0_4] 33 (0, 0)) (by (with_reducible repeat (first | refine blk_drewN ?_ _ | refine blk_drew ?_ | refine blk_alloc ?_ _)); exact BK573.out)) : gb579 ≠ gb573)); clear HO_8; clear BK573; clear HB; have HO_8 := n0_; have BK573 := n1_; have HB := n2_; have BK579 := n3_; have GW579 := n4_; have GE579 := n5_; have NB573_579 := n6_; have NB579_573 := n7_; clear n0_ n1_ n2_ n3_ n4_ n5_ n6_ n7_; clear hb hbox hg; have hnb22 := NB579_573.out; have hnc22 := NB573_579.out; have hcz23_0 : w21.cell? ⟨gb579, 0, none⟩ = some (.int .i64 0) := (blk_cell BK579.out 0).trans rfl; have hcz23_1 : w21.cell? ⟨gb579, 1, none⟩ = some (.int .i64 0) := (blk_cell BK579.out 1).trans rfl; have hfz23_0 := blk_frozen BK579.out 0; have hfz23_1 := blk_frozen BK579.out 1; obtain ⟨Ao24, co24, eo24⟩ := Kd.R_slice HO_8.out; subst eo24; have p580 : 0 ≤ (x26_2 : Int) := of_decide_eq_true (by assumption); have q580 : x26_2 < (t575.length : Int) := of_decide_eq_true (by assumption); obtain ⟨ad580, e580, hx580_0⟩ := Kd.at_int (Kd.R_reads' HO_8.out).2.2 x26_2 p580 q580; cases e580; have hn580_0 : ad580.block ≠ gb579 := Kd.own_blk (Kd.R_ne HO_8.out BK579.out (by decide)); have hn580_1 : ad580.block ≠ gb579 := Kd.own_blk (Kd.R_ne HO_8.out BK579.out (by decide)); replace hx580_0 := (cell_far (p := ⟨gb579, 0, none⟩) (by first | (rw [add_block]; exact hn580_0) | (show (Addr.add _ _).block ≠ _; rw [add_block]; exact hn580_0) | exact hn580_0) (.int .i64 ((rd_T154 l0_0 x26_2).f0))).trans hx580_0; replace hx580_0 := (cell_far (p := ⟨gb579, 1, none⟩) (by first | (rw [add_block]; exact hn580_1) | (show (Addr.add _ _).block ≠ _; rw [add_block]; exact hn580_1) | exact hn580_1) (.int .i64 ((rd_T154 l0_0 x26_2).f1))).trans hx580_0; (try have hy580_0 := fun (n_ : Nat) => (show ((((w21.drewN n_).setCell ⟨gb579, 0, none⟩ (.int .i64 ((rd_T154 l0_0 x26_2).f0))).setCell ⟨gb579, 1, none⟩ (.int .i64 ((rd_T154 l0_0 x26_2).f1)))).cell? _ = some _ from hx580_0)); clear hn580_0; clear hn580_1; replace p580 := eq_true p580; replace q580 := eq_true q580))
             repeat (go_quiet (first | ((with_reducible refine gate_dst (N := 10) rfl ?_); refine box_event ?hg (N := 10) ?hd (cs := #[.int .i64 0, .int .i64 0]) (t := 154) ?hr ?_; (case hd => rfl); (case hg => rfl); (case hr => first | (go_simp; done) | (go_simp; rfl)); intro gb579 hg w21 hbox hb; have n0_ := Aside0.mk (Kd.R_below (by (with_reducible repeat (first | apply Kd.R_alloc | apply Kd.R_drewN | apply Kd.R_drew)); exact HO_8.out) hb); have n1_ := Aside0.mk (blk_below (g := gb573) (o := .cells #[.slice (some ad578) l0_0.length c0_0, .slice (some ad574) l0_1.length c0_1, .slice A0_2 l0_2.length c0_2, .int .i64 a0_3, .int .i64 a0_4] 33 (0, 0)) (by (with_reducible repeat (first | refine blk_drewN ?_ _ | refine blk_drew ?_ | refine blk_alloc ?_ _)); exact BK573.out) hb); have n2_ := Aside0.mk (below_step (by repeat (first | (with_reducible first | exact HB.out | apply below_alloc | apply pw_below_drewN | apply below_drew1 | refine below_set ?_ GE573.out) | exact HB.out)) hb); have n3_ := Aside0.mk (hbox); have n4_ := Aside0.mk ((by rw [hg]; exact (below_size (by repeat (first | (with_reducible first | exact HB.out | apply below_alloc | apply pw_below_drewN | apply below_drew1 | refine below_set ?_ GE573.out) | exact HB.out))) : w.heap.size ≤ gb579)); have n5_ := Aside0.mk ((by rw [hg]; exact (below_size (by repeat (first | (with_reducible first | exact HB.out | apply below_alloc | apply pw_below_drewN | apply below_drew1 | refine below_set ?_ GE573.out) | exact HB.out))) : w.heap.size ≤ gb579)); have n6_ := Aside0.mk ((by rw [hg]; exact Nat.ne_of_lt (blk_lt (g := gb573) (o := .cells #[.slice (some ad578) l0_0.length c0_0, .slice (some ad574) l0_1.length c0_1, .slice A0_2 l0_2.length c0_2, .int .i64 a0_3, .int .i64 a0_4] 33 (0, 0)) (by (with_reducible repeat (first | refine blk_drewN ?_ _ | refine blk_drew ?_ | refine blk_alloc ?_ _)); exact BK573.out)) : gb573 ≠ gb579)); have n7_ := Aside0.mk ((by rw [hg]; exact Nat.ne_of_gt (blk_lt (g := gb573) (o := .cells #[.slice (some ad578) l0_0.length c0_0, .slice (some ad574) l0_1.length c0_1, .slice A0_2 l0_2.length c0_2, .int .i64 a0_3, .int .i64 a0_4] 33 (0, 0)) (by (with_reducible repeat (first | refine blk_drewN ?_ _ | refine blk_drew ?_ | refine blk_alloc ?_ _)); exact BK573.out)) : gb579 ≠ gb573)); clear HO_8; clear BK573; clear HB; have HO_8 := n0_; have BK573 := n1_; have HB := n2_; have BK579 := n3_; have GW579 := n4_; have GE579 := n5_; have NB573_579 := n6_; have NB579_573 := n7_; clear n0_ n1_ n2_ n3_ n4_ n5_ n6_ n7_; clear hb hbox hg; have hnb22 := NB579_573.out; have hnc22 := NB573_579.out; have hcz23_0 : w21.cell? ⟨gb579, 0, none⟩ = some (.int .i64 0) := (blk_cell BK579.out 0).trans rfl; have hcz23_1 : w21.cell? ⟨gb579, 1, none⟩ = some (.int .i64 0) := (blk_cell BK579.out 1).trans rfl; have hfz23_0 := blk_frozen BK579.out 0; have hfz23_1 := blk_frozen BK579.out 1; obtain ⟨Ao24, co24, eo24⟩ := Kd.R_slice HO_8.out; subst eo24; have p580 : 0 ≤ (x26_2 : Int) := of_decide_eq_true (by assumption); have q580 : x26_2 < (t575.length : Int) := of_decide_eq_true (by assumption); obtain ⟨ad580, e580, hx580_0⟩ := Kd.at_int (Kd.R_reads' HO_8.out).2.2 x26_2 p580 q580; cases e580; have hn580_0 : ad580.block ≠ gb579 := Kd.own_blk (Kd.R_ne HO_8.out BK579.out (by decide)); have hn580_1 : ad580.block ≠ gb579 := Kd.own_blk (Kd.R_ne HO_8.out BK579.out (by decide)); replace hx580_0 := (cell_far (p := ⟨gb579, 0, none⟩) (by first | (rw [add_block]; exact hn580_0) | (show (Addr.add _ _).block ≠ _; rw [add_block]; exact hn580_0) | exact hn580_0) (.int .i64 ((rd_T154 l0_0 x26_2).f0))).trans hx580_0; replace hx580_0 := (cell_far (p := ⟨gb579, 1, none⟩) (by first | (rw [add_block]; exact hn580_1) | (show (Addr.add _ _).block ≠ _; rw [add_block]; exact hn580_1) | exact hn580_1) (.int .i64 ((rd_T154 l0_0 x26_2).f1))).trans hx580_0; (try have hy580_0 := fun (n_ : Nat) => (show ((((w21.drewN n_).setCell ⟨gb579, 0, none⟩ (.int .i64 ((rd_T154 l0_0 x26_2).f0))).setCell ⟨gb579, 1, none⟩ (.int .i64 ((rd_T154 l0_0 x26_2).f1)))).cell? _ = some _ from hx580_0)); clear hn580_0; clear hn580_1; replace p580 := eq_true p580; replace q580 := eq_true q580)); try go_wp2_with (first | ((with_reducible refine gate_dst (N := 10) rfl ?_); refine box_event ?hg (N := 10) ?hd (cs := #[.int .i64 0, .int .i64 0]) (t := 154) ?hr ?_; (case hd => rfl); (case hg => rfl); (case hr => first | (go_simp; done) | (go_simp; rfl)); intro gb579 hg w21 hbox hb; have n0_ := Aside0.mk (Kd.R_below (by (with_reducible repeat (first | apply Kd.R_alloc | apply Kd.R_drewN | apply Kd.R_drew)); exact HO_8.out) hb); have n1_ := Aside0.mk (blk_below (g := gb573) (o := .cells #[.slice (some ad578) l0_0.length c0_0, .slice (some ad574) l0_1.length c0_1, .slice A0_2 l0_2.length c0_2, .int .i64 a0_3, .int .i64 a0_4] 33 (0, 0)) (by (with_reducible repeat (first | refine blk_drewN ?_ _ | refine blk_drew ?_ | refine blk_alloc ?_ _)); exact BK573.out) hb); have n2_ := Aside0.mk (below_step (by repeat (first | (with_reducible first | exact HB.out | apply below_alloc | apply pw_below_drewN | apply below_drew1 | refine below_set ?_ GE573.out) | exact HB.out)) hb); have n3_ := Aside0.mk (hbox); have n4_ := Aside0.mk ((by rw [hg]; exact (below_size (by repeat (first | (with_reducible first | exact HB.out | apply below_alloc | apply pw_below_drewN | apply below_drew1 | refine below_set ?_ GE573.out) | exact HB.out))) : w.heap.size ≤ gb579)); have n5_ := Aside0.mk ((by rw [hg]; exact (below_size (by repeat (first | (with_reducible first | exact HB.out | apply below_alloc | apply pw_below_drewN | apply below_drew1 | refine below_set ?_ GE573.out) | exact HB.out))) : w.heap.size ≤ gb579)); have n6_ := Aside0.mk ((by rw [hg]; exact Nat.ne_of_lt (blk_lt (g := gb573) (o := .cells #[.slice (some ad578) l0_0.length c0_0, .slice (some ad574) l0_1.length c0_1, .slice A0_2 l0_2.length c0_2, .int .i64 a0_3, .int .i64 a0_4] 33 (0, 0)) (by (with_reducible repeat (first | refine blk_drewN ?_ _ | refine blk_drew ?_ | refine blk_alloc ?_ _)); exact BK573.out)) : gb573 ≠ gb579)); have n7_ := Aside0.mk ((by rw [hg]; exact Nat.ne_of_gt (blk_lt (g := gb573) (o := .cells #[.slice (some ad578) l0_0.length c0_0, .slice (some ad574) l0_1.length c0_1, .slice A0_2 l0_2.length c0_2, .int .i64 a0_3, .int .i64 a0_4] 33 (0, 0)) (by (with_reducible repeat (first | refine blk_drewN ?_ _ | refine blk_drew ?_ | refine blk_alloc ?_ _)); exact BK573.out)) : gb579 ≠ gb573)); clear HO_8; clear BK573; clear HB; have HO_8 := n0_; have BK573 := n1_; have HB := n2_; have BK579 := n3_; have GW579 := n4_; have GE579 := n5_; have NB573_579 := n6_; have NB579_573 := n7_; clear n0_ n1_ n2_ n3_ n4_ n5_ n6_ n7_; clear hb hbox hg; have hnb22 := NB579_573.out; have hnc22 := NB573_579.out; have hcz23_0 : w21.cell? ⟨gb579, 0, none⟩ = some (.int .i64 0) := (blk_cell BK579.out 0).trans rfl; have hcz23_1 : w21.cell? ⟨gb579, 1, none⟩ = some (.int .i64 0) := (blk_cell BK579.out 1).trans rfl; have hfz23_0 := blk_frozen BK579.out 0; have hfz23_1 := blk_frozen BK579.out 1; obtain ⟨Ao24, co24, eo24⟩ := Kd.R_slice HO_8.out; subst eo24; have p580 : 0 ≤ (x26_2 : Int) := of_decide_eq_true (by assumption); have q580 : x26_2 < (t575.length : Int) := of_decide_eq_true (by assumption); obtain ⟨ad580, e580, hx580_0⟩ := Kd.at_int (Kd.R_reads' HO_8.out).2.2 x26_2 p580 q580; cases e580; have hn580_0 : ad580.block ≠ gb579 := Kd.own_blk (Kd.R_ne HO_8.out BK579.out (by decide)); have hn580_1 : ad580.block ≠ gb579 := Kd.own_blk (Kd.R_ne HO_8.out BK579.out (by decide)); replace hx580_0 := (cell_far (p := ⟨gb579, 0, none⟩) (by first | (rw [add_block]; exact hn580_0) | (show (Addr.add _ _).block ≠ _; rw [add_block]; exact hn580_0) | exact hn580_0) (.int .i64 ((rd_T154 l0_0 x26_2).f0))).trans hx580_0; replace hx580_0 := (cell_far (p := ⟨gb579, 1, none⟩) (by first | (rw [add_block]; exact hn580_1) | (show (Addr.add _ _).block ≠ _; rw [add_block]; exact hn580_1) | exact hn580_1) (.int .i64 ((rd_T154 l0_0 x26_2).f1))).trans hx580_0; (try have hy580_0 := fun (n_ : Nat) => (show ((((w21.drewN n_).setCell ⟨gb579, 0, none⟩ (.int .i64 ((rd_T154 l0_0 x26_2).f0))).setCell ⟨gb579, 1, none⟩ (.int .i64 ((rd_T154 l0_0 x26_2).f1)))).cell? _ = some _ from hx580_0)); clear hn580_0; clear hn580_1; replace p580 := eq_true p580; replace q580 := eq_true q580)))
             go_roundg k2
             case measure => have := HK1.out; have := HK2.out; omega
             case rel => exact ⟨(wrap64 (x26_2 + 1)), (by first | rfl | (simp; done) | (simp [*]; done) | (simp [Int.tdiv_eq_ediv_of_nonneg, *]; done)), H', ⟨by have := HK1.out; have := HK2.out; omega⟩, ⟨by (with_reducible repeat (first | apply Kd.R_alloc | apply Kd.R_drewN | apply Kd.R_drew)); exact Kd.R_mono (Kd.R_far (p := ⟨gb579, 1, none⟩) (Kd.R_far (p := ⟨gb579, 0, none⟩) (Kd.R_types HO_8.out BK579.out (by decide)) (fun _ hk => hk.2) (.int .i64 ((rd_T154 l0_0 x26_2).f0))) (fun _ hk => hk.2) (.int .i64 ((rd_T154 l0_0 x26_2).f1))) (fun _ hk => trivial)⟩, ⟨by (with_reducible repeat (first | refine blk_drewN ?_ _ | refine blk_drew ?_ | refine blk_alloc ?_ _)); refine blk_far ?_ NB573_579.out _; (with_reducible repeat (first | refine blk_drewN ?_ _ | refine blk_drew ?_ | refine blk_alloc ?_ _)); refine blk_far ?_ NB573_579.out _; (with_reducible repeat (first | refine blk_drewN ?_ _ | refine blk_drew ?_ | refine blk_alloc ?_ _)); exact BK573.out⟩, ⟨by repeat (first | (with_reducible first | exact HB.out | apply below_alloc | apply pw_below_drewN | apply below_drew1 | refine below_set ?_ GE573.out | refine below_set ?_ GE579.out) | exact HB.out)⟩⟩
           ·rw [if_neg c15] at H
            exact absurd H (by simp)
          ·rw [if_neg c14] at H
           exact absurd H (by simp)
         ·rw [if_neg c13] at H
          exact absurd H (by simp)
        ·rw [if_neg c12] at H
         have c12b0 : decide (x26_2 < (l0_0.length : Int)) = false := decide_eq_false c12
         clear c12
         have H' := Aside0.mk H
         clear H
         go_wp2
         repeat (go_quiet (fail); try go_wp2)
         go_roundg k2
         case measure => have := HK1.out; have := HK2.out; omega
         case rel => exact ⟨(wrap64 (x14_1 + 1)), (by first | rfl | (simp; done) | (simp [*]; done) | (simp [Int.tdiv_eq_ediv_of_nonneg, *]; done)), H', ⟨by have := HK1.out; have := HK2.out; omega⟩, ⟨by (with_reducible repeat (first | refine blk_drewN ?_ _ | refine blk_drew ?_ | refine blk_alloc ?_ _)); exact BK573.out⟩, ⟨by repeat (first | (with_reducible first | exact HB.out | apply below_alloc | apply pw_below_drewN | apply below_drew1 | refine below_set ?_ GE573.out) | exact HB.out)⟩⟩
     ·rw [if_neg c7] at H
      exact absurd H (by simp)
    ·rw [if_neg c6] at H
     exact absurd H (by simp)
   ·rw [if_neg c5] at H
    have c5b0 : decide (x14_1 < (l0_1.length : Int)) = false := decide_eq_false c5
    clear c5
    simp only [Option.some.injEq, Prod.mk.injEq] at H
    obtain ⟨rfl, rfl⟩ := H
    go_wp2
    repeat (go_quiet (fail); try go_wp2)
    go_ret2
    exact ⟨by first | rfl | (simp [errW_none, errW_some] <;> rfl) | (simp [*, errW_none, errW_some] <;> rfl) | (simp [Int.tdiv_eq_ediv_of_nonneg, *]; done), by repeat (first | (with_reducible first | exact HB.out | apply below_alloc | apply pw_below_drewN | apply below_drew1 | refine below_set ?_ GE573.out) | exact HB.out)⟩

end Go.Proofs.Ytagmaflnnaonjaa.P
namespace Go.Proofs.Ytagmaflnnaonjaa.P
open Go.RowKit Go.Proofs.YtagmaflnnaonjaaW.PrintWords Go.Proofs.YtagmaflnnaonjaaW.PrintLast Go.Proofs.YtagmaflnnaonjaaW.PrintMore
attribute [local go_sem] max2_int min2_int max_two min_two max_three min_three max_four min_four   -- for this text's walks alone

def spec_FirstFailure.f (k : Nat) (l0_0 : List (S154)) (l0_1 : List Int) (l0_2 : List Int) (a0_3 : Int) (a0_4 : Int) (l1 : List (S106)) : Option (Int × Int × Bool) := (spec_l08Is.f k l0_0 l0_1 l0_2 a0_3 a0_4).bind fun t636 => (if t636 = true then ((spec_l08Plan.f k l0_0 l0_1 l0_2 a0_3 a0_4 l1).bind fun t637 => (if t637 = true then ((spec_l08Failure.f k l0_0 l0_1 l0_2 a0_3 a0_4 l1).bind fun bt638 => (some (bt638.1, bt638.2.1, bt638.2.2))) else (some (0, 0, false)))) else (some (0, 0, false)))
set_option maxHeartbeats 8000000 in
set_option maxRecDepth 100000 in
theorem spec_FirstFailure.calls (k : Nat) (A0_0 : Option Addr) (c0_0 : Nat) (l0_0 : List (S154)) (A0_1 : Option Addr) (c0_1 : Nat) (l0_1 : List Int) (A0_2 : Option Addr) (c0_2 : Nat) (l0_2 : List Int) (a0_3 : Int) (a0_4 : Int) (A1 : Option Addr) (c1 : Nat) (l1 : List (S106)) (r1 : Int) (r2 : Int) (r3 : Bool) (w : World) (hr0_0 : Kd.C k154 w A0_0 l0_0.length l0_0) (hc0_0 : l0_0.length ≤ c0_0) (hr0_1 : Kd.C (Kd.int .i64) w A0_1 l0_1.length l0_1) (hc0_1 : l0_1.length ≤ c0_1) (hr0_2 : Kd.C (Kd.int .i64) w A0_2 l0_2.length l0_2) (hc0_2 : l0_2.length ≤ c0_2) (hr1 : Kd.C k106 w A1 l1.length l1) (hc1 : l1.length ≤ c1) (h : spec_FirstFailure.f k l0_0 l0_1 l0_2 a0_3 a0_4 l1 = some (r1, r2, r3)) :
  Calls Try.prog 40 #[.agg #[.slice A0_0 l0_0.length c0_0, .slice A0_1 l0_1.length c0_1, .slice A0_2 l0_2.length c0_2, .int .i64 a0_3, .int .i64 a0_4], .slice A1 l1.length c1] w fun e w' => e = .returned (.tuple #[.int .i64 r1, .int .i64 r2, .bool r3]) ∧ Below w.heap.size w w' := by
 have hu33 := Try.underlying33
 have HR0_0 := Aside0.mk hr0_0
 have HC0_0 := Aside0.mk hc0_0
 clear hr0_0 hc0_0
 have HR0_1 := Aside0.mk hr0_1
 have HC0_1 := Aside0.mk hc0_1
 clear hr0_1 hc0_1
 have HR0_2 := Aside0.mk hr0_2
 have HC0_2 := Aside0.mk hc0_2
 clear hr0_2 hc0_2
 have HR1 := Aside0.mk hr1
 have HC1 := Aside0.mk hc1
 clear hr1 hc1
 have HB := Aside0.mk (Below.refl w.heap.size w)
 have H : ((spec_l08Is.f k l0_0 l0_1 l0_2 a0_3 a0_4).bind fun t636 => (if t636 = true then ((spec_l08Plan.f k l0_0 l0_1 l0_2 a0_3 a0_4 l1).bind fun t637 => (if t637 = true then ((spec_l08Failure.f k l0_0 l0_1 l0_2 a0_3 a0_4 l1).bind fun bt638 => (some (bt638.1, bt638.2.1, bt638.2.2))) else (some (0, 0, false)))) else (some (0, 0, false)))) = some (r1, r2, r3) := h
 clear h
 replace H := Option.bind_eq_some_iff.mp H
 obtain ⟨t636, A30, H⟩ := H
 replace H : (if t636 = true then ((spec_l08Plan.f k l0_0 l0_1 l0_2 a0_3 a0_4 l1).bind fun t637 => (if t637 = true then ((spec_l08Failure.f k l0_0 l0_1 l0_2 a0_3 a0_4 l1).bind fun bt638 => (some (bt638.1, bt638.2.1, bt638.2.2))) else (some (0, 0, false)))) else (some (0, 0, false))) = some (r1, r2, r3) := H
 have A3 := Aside0.mk A30
 clear A30
 by_cases c4 : t636 = true
 ·subst c4
  have H1 : ((spec_l08Plan.f k l0_0 l0_1 l0_2 a0_3 a0_4 l1).bind fun t637 => (if t637 = true then ((spec_l08Failure.f k l0_0 l0_1 l0_2 a0_3 a0_4 l1).bind fun bt638 => (some (bt638.1, bt638.2.1, bt638.2.2))) else (some (0, 0, false)))) = some (r1, r2, r3) := by rw [if_pos rfl] at H; exact H
  clear H
  have H := H1
  clear H1
  replace H := Option.bind_eq_some_iff.mp H
  obtain ⟨t637, A50, H⟩ := H
  replace H : (if t637 = true then ((spec_l08Failure.f k l0_0 l0_1 l0_2 a0_3 a0_4 l1).bind fun bt638 => (some (bt638.1, bt638.2.1, bt638.2.2))) else (some (0, 0, false))) = some (r1, r2, r3) := H
  have A5 := Aside0.mk A50
  clear A50
  by_cases c6 : t637 = true
  ·subst c6
   have H1 : ((spec_l08Failure.f k l0_0 l0_1 l0_2 a0_3 a0_4 l1).bind fun bt638 => (some (bt638.1, bt638.2.1, bt638.2.2))) = some (r1, r2, r3) := by rw [if_pos rfl] at H; exact H
   clear H
   have H := H1
   clear H1
   replace H := Option.bind_eq_some_iff.mp H
   obtain ⟨⟨t638, t639, t640⟩, A70, H⟩ := H
   replace H : (some (t638, t639, t640)) = some (r1, r2, r3) := H
   have A7 := Aside0.mk A70
   clear A70
   simp only [Option.some.injEq, Prod.mk.injEq] at H
   obtain ⟨rfl, rfl, rfl⟩ := H
   go_enter Try.func40, Try.ntmps40
   go_wp2_with (first | ((with_reducible refine gate_dst (N := 2) rfl ?_); refine box_event ?hg (N := 2) ?hd (cs := #[.slice A0_0 l0_0.length c0_0, .slice A0_1 l0_1.length c0_1, .slice A0_2 l0_2.length c0_2, .int .i64 a0_3, .int .i64 a0_4]) (t := 33) ?hr ?_; (case hd => rfl); (case hg => rfl); (case hr => first | (go_simp; done) | (go_simp; rfl)); intro gb635 hg w8 hbox hb; have n0_ := Aside0.mk (below_step (by repeat (first | (with_reducible first | exact HB.out | apply below_alloc | apply pw_below_drewN | apply below_drew1) | exact HB.out)) hb); have n1_ := Aside0.mk (hbox); have n2_ := Aside0.mk ((by rw [hg]; exact (below_size (by repeat (first | (with_reducible first | exact HB.out | apply below_alloc | apply pw_below_drewN | apply below_drew1) | exact HB.out))) : w.heap.size ≤ gb635)); have n3_ := Aside0.mk ((by rw [hg]; exact (below_size (by repeat (first | (with_reducible first | exact HB.out | apply below_alloc | apply pw_below_drewN | apply below_drew1) | exact HB.out))) : w.heap.size ≤ gb635)); clear HB; have HB := n0_; have BK635 := n1_; have GW635 := n2_; have GE635 := n3_; clear n0_ n1_ n2_ n3_; clear hb hbox hg) | ((with_reducible refine gate_callee (f := 69) rfl ?_); refine goesL_ (some 7) rfl rfl Try.func69 (by kernel_rfl) rfl #[.pointer (some ⟨gb635, 0, none⟩)] rfl (by (try simp only [List.map_toArray, List.map_cons, List.map_nil]); first | done | rfl) ?_; (with_reducible refine (spec_l08Is.calls k gb635 A0_0 c0_0 l0_0 A0_1 c0_1 l0_1 A0_2 c0_2 l0_2 a0_3 a0_4 true _ ?side1 ?side2 ?side3 ?side4 ?side5 ?side6 ?side7 A3.out).mono ?_); (case side1 => repeat (first | exact (Kd.C_below HR0_0.out HB.out) | (with_reducible first | refine Kd.C_alloc ?_ _ | refine Kd.C_drewN ?_ _ | refine Kd.C_drew ?_))); (case side2 => exact HC0_0.out); (case side3 => repeat (first | exact (Kd.C_below HR0_1.out HB.out) | (with_reducible first | refine Kd.C_alloc ?_ _ | refine Kd.C_drewN ?_ _ | refine Kd.C_drew ?_))); (case side4 => exact HC0_1.out); (case side5 => repeat (first | exact (Kd.C_below HR0_2.out HB.out) | (with_reducible first | refine Kd.C_alloc ?_ _ | refine Kd.C_drewN ?_ _ | refine Kd.C_drew ?_))); (case side6 => exact HC0_2.out); (case side7 => exact (by (with_reducible repeat (first | refine blk_drewN ?_ _ | refine blk_drew ?_ | refine blk_alloc ?_ _)); exact BK635.out)); rintro e w9 ⟨rfl, hb⟩; (try (have db_ : ∀ {w w' : World}, Drawn0 w w' → Below w.heap.size w w' := (by intro w w' h_; obtain ⟨n_, rfl⟩ := h_; exact pw_below_drewN (Below.refl _ _) _); replace hb := db_ hb; clear db_)); refine ⟨_, rfl, ?_⟩; have n0_ := Aside0.mk (blk_below (g := gb635) (o := .cells #[.slice A0_0 l0_0.length c0_0, .slice A0_1 l0_1.length c0_1, .slice A0_2 l0_2.length c0_2, .int .i64 a0_3, .int .i64 a0_4] 33 (0, 0)) (by (with_reducible repeat (first | refine blk_drewN ?_ _ | refine blk_drew ?_ | refine blk_alloc ?_ _)); exact BK635.out) hb); have n1_ := Aside0.mk (below_step (by repeat (first | (with_reducible first | exact HB.out | apply below_alloc | apply pw_below_drewN | apply below_drew1 | refine below_set ?_ GE635.out) | exact HB.out)) hb); clear BK635; clear HB; have BK635 := n0_; have HB := n1_; clear n0_ n1_; (try clear hb); (try clear hb2); (try clear hk); (try clear hi)) | (go_at_call 70; (with_reducible refine (spec_l08Plan.calls k gb635 A0_0 c0_0 l0_0 A0_1 c0_1 l0_1 A0_2 c0_2 l0_2 a0_3 a0_4 _ _ l1 true _ ?side1 ?side2 ?side3 ?side4 ?side5 ?side6 ?side7 ?side8 ?side9 A5.out).mono ?_); (case side1 => repeat (first | exact (Kd.C_below HR0_0.out HB.out) | (with_reducible first | refine Kd.C_alloc ?_ _ | refine Kd.C_drewN ?_ _ | refine Kd.C_drew ?_))); (case side2 => exact HC0_0.out); (case side3 => repeat (first | exact (Kd.C_below HR0_1.out HB.out) | (with_reducible first | refine Kd.C_alloc ?_ _ | refine Kd.C_drewN ?_ _ | refine Kd.C_drew ?_))); (case side4 => exact HC0_1.out); (case side5 => repeat (first | exact (Kd.C_below HR0_2.out HB.out) | (with_reducible first | refine Kd.C_alloc ?_ _ | refine Kd.C_drewN ?_ _ | refine Kd.C_drew ?_))); (case side6 => exact HC0_2.out); (case side7 => repeat (first | exact (Kd.C_below HR1.out HB.out) | (with_reducible first | refine Kd.C_alloc ?_ _ | refine Kd.C_drewN ?_ _ | refine Kd.C_drew ?_))); (case side8 => exact HC1.out); (case side9 => exact (by (with_reducible repeat (first | refine blk_drewN ?_ _ | refine blk_drew ?_ | refine blk_alloc ?_ _)); exact BK635.out)); rintro e w10 ⟨rfl, hb⟩; have n0_ := Aside0.mk (blk_below (g := gb635) (o := .cells #[.slice A0_0 l0_0.length c0_0, .slice A0_1 l0_1.length c0_1, .slice A0_2 l0_2.length c0_2, .int .i64 a0_3, .int .i64 a0_4] 33 (0, 0)) (by (with_reducible repeat (first | refine blk_drewN ?_ _ | refine blk_drew ?_ | refine blk_alloc ?_ _)); exact BK635.out) hb); have n1_ := Aside0.mk (below_step (by repeat (first | (with_reducible first | exact HB.out | apply below_alloc | apply pw_below_drewN | apply below_drew1 | refine below_set ?_ GE635.out) | exact HB.out)) hb); clear BK635; clear HB; have BK635 := n0_; have HB := n1_; clear n0_ n1_; (try clear hb); (try clear hb2); (try clear hk); (try clear hi)) | ((with_reducible refine gate_callee (f := 99) rfl ?_); refine goesL_ (some 15) rfl rfl Try.func99 (by kernel_rfl) rfl #[.pointer (some ⟨gb635, 0, none⟩), .slice A1 l1.length c1] rfl (by (try simp only [List.map_toArray, List.map_cons, List.map_nil]); first | done | rfl) ?_; (with_reducible refine (spec_l08Failure.calls k gb635 A0_0 c0_0 l0_0 A0_1 c0_1 l0_1 A0_2 c0_2 l0_2 a0_3 a0_4 _ _ l1 t638 t639 t640 _ ?side1 ?side2 ?side3 ?side4 ?side5 ?side6 ?side7 ?side8 ?side9 A7.out).mono ?_); (case side1 => repeat (first | exact (Kd.C_below HR0_0.out HB.out) | (with_reducible first | refine Kd.C_alloc ?_ _ | refine Kd.C_drewN ?_ _ | refine Kd.C_drew ?_))); (case side2 => exact HC0_0.out); (case side3 => repeat (first | exact (Kd.C_below HR0_1.out HB.out) | (with_reducible first | refine Kd.C_alloc ?_ _ | refine Kd.C_drewN ?_ _ | refine Kd.C_drew ?_))); (case side4 => exact HC0_1.out); (case side5 => repeat (first | exact (Kd.C_below HR0_2.out HB.out) | (with_reducible first | refine Kd.C_alloc ?_ _ | refine Kd.C_drewN ?_ _ | refine Kd.C_drew ?_))); (case side6 => exact HC0_2.out); (case side7 => repeat (first | exact (Kd.C_below HR1.out HB.out) | (with_reducible first | refine Kd.C_alloc ?_ _ | refine Kd.C_drewN ?_ _ | refine Kd.C_drew ?_))); (case side8 => exact HC1.out); (case side9 => exact (by (with_reducible repeat (first | refine blk_drewN ?_ _ | refine blk_drew ?_ | refine blk_alloc ?_ _)); exact BK635.out)); rintro e w11 ⟨rfl, hb⟩; refine ⟨_, rfl, ?_⟩; have n0_ := Aside0.mk (blk_below (g := gb635) (o := .cells #[.slice A0_0 l0_0.length c0_0, .slice A0_1 l0_1.length c0_1, .slice A0_2 l0_2.length c0_2, .int .i64 a0_3, .int .i64 a0_4] 33 (0, 0)) (by (with_reducible repeat (first | refine blk_drewN ?_ _ | refine blk_drew ?_ | refine blk_alloc ?_ _)); exact BK635.out) hb); have n1_ := Aside0.mk (below_step (by repeat (first | (with_reducible first | exact HB.out | apply below_alloc | apply pw_below_drewN | apply below_drew1 | refine below_set ?_ GE635.out) | exact HB.out)) hb); clear BK635; clear HB; have BK635 := n0_; have HB := n1_; clear n0_ n1_; (try clear hb); (try clear hb2); (try clear hk); (try clear hi)))
   go_ret3
   exact ⟨by first | rfl | (simp [errW_none, errW_some] <;> rfl) | (simp [*, errW_none, errW_some] <;> rfl) | (simp [Int.tdiv_eq_ediv_of_nonneg, *]; done), by repeat (first | (with_reducible first | exact HB.out | apply below_alloc | apply pw_below_drewN | apply below_drew1 | refine below_set ?_ GE635.out) | exact HB.out)⟩
  ·replace c6 := Bool.eq_false_iff.mpr c6
   subst c6
   have H1 : (some (0, 0, false)) = some (r1, r2, r3) := by rw [if_neg (show ¬ (false = true) by decide)] at H; exact H
   clear H
   have H := H1
   clear H1
   simp only [Option.some.injEq, Prod.mk.injEq] at H
   obtain ⟨rfl, rfl, rfl⟩ := H
   go_enter Try.func40, Try.ntmps40
   go_wp2_with (first | ((with_reducible refine gate_dst (N := 2) rfl ?_); refine box_event ?hg (N := 2) ?hd (cs := #[.slice A0_0 l0_0.length c0_0, .slice A0_1 l0_1.length c0_1, .slice A0_2 l0_2.length c0_2, .int .i64 a0_3, .int .i64 a0_4]) (t := 33) ?hr ?_; (case hd => rfl); (case hg => rfl); (case hr => first | (go_simp; done) | (go_simp; rfl)); intro gb635 hg w12 hbox hb; have n0_ := Aside0.mk (below_step (by repeat (first | (with_reducible first | exact HB.out | apply below_alloc | apply pw_below_drewN | apply below_drew1) | exact HB.out)) hb); have n1_ := Aside0.mk (hbox); have n2_ := Aside0.mk ((by rw [hg]; exact (below_size (by repeat (first | (with_reducible first | exact HB.out | apply below_alloc | apply pw_below_drewN | apply below_drew1) | exact HB.out))) : w.heap.size ≤ gb635)); have n3_ := Aside0.mk ((by rw [hg]; exact (below_size (by repeat (first | (with_reducible first | exact HB.out | apply below_alloc | apply pw_below_drewN | apply below_drew1) | exact HB.out))) : w.heap.size ≤ gb635)); clear HB; have HB := n0_; have BK635 := n1_; have GW635 := n2_; have GE635 := n3_; clear n0_ n1_ n2_ n3_; clear hb hbox hg) | ((with_reducible refine gate_callee (f := 69) rfl ?_); refine goesL_ (some 7) rfl rfl Try.func69 (by kernel_rfl) rfl #[.pointer (some ⟨gb635, 0, none⟩)] rfl (by (try simp only [List.map_toArray, List.map_cons, List.map_nil]); first | done | rfl) ?_; (with_reducible refine (spec_l08Is.calls k gb635 A0_0 c0_0 l0_0 A0_1 c0_1 l0_1 A0_2 c0_2 l0_2 a0_3 a0_4 true _ ?side1 ?side2 ?side3 ?side4 ?side5 ?side6 ?side7 A3.out).mono ?_); (case side1 => repeat (first | exact (Kd.C_below HR0_0.out HB.out) | (with_reducible first | refine Kd.C_alloc ?_ _ | refine Kd.C_drewN ?_ _ | refine Kd.C_drew ?_))); (case side2 => exact HC0_0.out); (case side3 => repeat (first | exact (Kd.C_below HR0_1.out HB.out) | (with_reducible first | refine Kd.C_alloc ?_ _ | refine Kd.C_drewN ?_ _ | refine Kd.C_drew ?_))); (case side4 => exact HC0_1.out); (case side5 => repeat (first | exact (Kd.C_below HR0_2.out HB.out) | (with_reducible first | refine Kd.C_alloc ?_ _ | refine Kd.C_drewN ?_ _ | refine Kd.C_drew ?_))); (case side6 => exact HC0_2.out); (case side7 => exact (by (with_reducible repeat (first | refine blk_drewN ?_ _ | refine blk_drew ?_ | refine blk_alloc ?_ _)); exact BK635.out)); rintro e w13 ⟨rfl, hb⟩; (try (have db_ : ∀ {w w' : World}, Drawn0 w w' → Below w.heap.size w w' := (by intro w w' h_; obtain ⟨n_, rfl⟩ := h_; exact pw_below_drewN (Below.refl _ _) _); replace hb := db_ hb; clear db_)); refine ⟨_, rfl, ?_⟩; have n0_ := Aside0.mk (blk_below (g := gb635) (o := .cells #[.slice A0_0 l0_0.length c0_0, .slice A0_1 l0_1.length c0_1, .slice A0_2 l0_2.length c0_2, .int .i64 a0_3, .int .i64 a0_4] 33 (0, 0)) (by (with_reducible repeat (first | refine blk_drewN ?_ _ | refine blk_drew ?_ | refine blk_alloc ?_ _)); exact BK635.out) hb); have n1_ := Aside0.mk (below_step (by repeat (first | (with_reducible first | exact HB.out | apply below_alloc | apply pw_below_drewN | apply below_drew1 | refine below_set ?_ GE635.out) | exact HB.out)) hb); clear BK635; clear HB; have BK635 := n0_; have HB := n1_; clear n0_ n1_; (try clear hb); (try clear hb2); (try clear hk); (try clear hi)) | (go_at_call 70; (with_reducible refine (spec_l08Plan.calls k gb635 A0_0 c0_0 l0_0 A0_1 c0_1 l0_1 A0_2 c0_2 l0_2 a0_3 a0_4 _ _ l1 false _ ?side1 ?side2 ?side3 ?side4 ?side5 ?side6 ?side7 ?side8 ?side9 A5.out).mono ?_); (case side1 => repeat (first | exact (Kd.C_below HR0_0.out HB.out) | (with_reducible first | refine Kd.C_alloc ?_ _ | refine Kd.C_drewN ?_ _ | refine Kd.C_drew ?_))); (case side2 => exact HC0_0.out); (case side3 => repeat (first | exact (Kd.C_below HR0_1.out HB.out) | (with_reducible first | refine Kd.C_alloc ?_ _ | refine Kd.C_drewN ?_ _ | refine Kd.C_drew ?_))); (case side4 => exact HC0_1.out); (case side5 => repeat (first | exact (Kd.C_below HR0_2.out HB.out) | (with_reducible first | refine Kd.C_alloc ?_ _ | refine Kd.C_drewN ?_ _ | refine Kd.C_drew ?_))); (case side6 => exact HC0_2.out); (case side7 => repeat (first | exact (Kd.C_below HR1.out HB.out) | (with_reducible first | refine Kd.C_alloc ?_ _ | refine Kd.C_drewN ?_ _ | refine Kd.C_drew ?_))); (case side8 => exact HC1.out); (case side9 => exact (by (with_reducible repeat (first | refine blk_drewN ?_ _ | refine blk_drew ?_ | refine blk_alloc ?_ _)); exact BK635.out)); rintro e w14 ⟨rfl, hb⟩; have n0_ := Aside0.mk (blk_below (g := gb635) (o := .cells #[.slice A0_0 l0_0.length c0_0, .slice A0_1 l0_1.length c0_1, .slice A0_2 l0_2.length c0_2, .int .i64 a0_3, .int .i64 a0_4] 33 (0, 0)) (by (with_reducible repeat (first | refine blk_drewN ?_ _ | refine blk_drew ?_ | refine blk_alloc ?_ _)); exact BK635.out) hb); have n1_ := Aside0.mk (below_step (by repeat (first | (with_reducible first | exact HB.out | apply below_alloc | apply pw_below_drewN | apply below_drew1 | refine below_set ?_ GE635.out) | exact HB.out)) hb); clear BK635; clear HB; have BK635 := n0_; have HB := n1_; clear n0_ n1_; (try clear hb); (try clear hb2); (try clear hk); (try clear hi)))
   go_ret3
   exact ⟨by first | rfl | (simp [errW_none, errW_some] <;> rfl) | (simp [*, errW_none, errW_some] <;> rfl) | (simp [Int.tdiv_eq_ediv_of_nonneg, *]; done), by repeat (first | (with_reducible first | exact HB.out | apply below_alloc | apply pw_below_drewN | apply below_drew1 | refine below_set ?_ GE635.out) | exact HB.out)⟩
 ·replace c4 := Bool.eq_false_iff.mpr c4
  subst c4
  have H1 : (some (0, 0, false)) = some (r1, r2, r3) := by rw [if_neg (show ¬ (false = true) by decide)] at H; exact H
  clear H
  have H := H1
  clear H1
  simp only [Option.some.injEq, Prod.mk.injEq] at H
  obtain ⟨rfl, rfl, rfl⟩ := H
  go_enter Try.func40, Try.ntmps40
  go_wp2_with (first | ((with_reducible refine gate_dst (N := 2) rfl ?_); refine box_event ?hg (N := 2) ?hd (cs := #[.slice A0_0 l0_0.length c0_0, .slice A0_1 l0_1.length c0_1, .slice A0_2 l0_2.length c0_2, .int .i64 a0_3, .int .i64 a0_4]) (t := 33) ?hr ?_; (case hd => rfl); (case hg => rfl); (case hr => first | (go_simp; done) | (go_simp; rfl)); intro gb635 hg w15 hbox hb; have n0_ := Aside0.mk (below_step (by repeat (first | (with_reducible first | exact HB.out | apply below_alloc | apply pw_below_drewN | apply below_drew1) | exact HB.out)) hb); have n1_ := Aside0.mk (hbox); have n2_ := Aside0.mk ((by rw [hg]; exact (below_size (by repeat (first | (with_reducible first | exact HB.out | apply below_alloc | apply pw_below_drewN | apply below_drew1) | exact HB.out))) : w.heap.size ≤ gb635)); have n3_ := Aside0.mk ((by rw [hg]; exact (below_size (by repeat (first | (with_reducible first | exact HB.out | apply below_alloc | apply pw_below_drewN | apply below_drew1) | exact HB.out))) : w.heap.size ≤ gb635)); clear HB; have HB := n0_; have BK635 := n1_; have GW635 := n2_; have GE635 := n3_; clear n0_ n1_ n2_ n3_; clear hb hbox hg) | ((with_reducible refine gate_callee (f := 69) rfl ?_); refine goesL_ (some 7) rfl rfl Try.func69 (by kernel_rfl) rfl #[.pointer (some ⟨gb635, 0, none⟩)] rfl (by (try simp only [List.map_toArray, List.map_cons, List.map_nil]); first | done | rfl) ?_; (with_reducible refine (spec_l08Is.calls k gb635 A0_0 c0_0 l0_0 A0_1 c0_1 l0_1 A0_2 c0_2 l0_2 a0_3 a0_4 false _ ?side1 ?side2 ?side3 ?side4 ?side5 ?side6 ?side7 A3.out).mono ?_); (case side1 => repeat (first | exact (Kd.C_below HR0_0.out HB.out) | (with_reducible first | refine Kd.C_alloc ?_ _ | refine Kd.C_drewN ?_ _ | refine Kd.C_drew ?_))); (case side2 => exact HC0_0.out); (case side3 => repeat (first | exact (Kd.C_below HR0_1.out HB.out) | (with_reducible first | refine Kd.C_alloc ?_ _ | refine Kd.C_drewN ?_ _ | refine Kd.C_drew ?_))); (case side4 => exact HC0_1.out); (case side5 => repeat (first | exact (Kd.C_below HR0_2.out HB.out) | (with_reducible first | refine Kd.C_alloc ?_ _ | refine Kd.C_drewN ?_ _ | refine Kd.C_drew ?_))); (case side6 => exact HC0_2.out); (case side7 => exact (by (with_reducible repeat (first | refine blk_drewN ?_ _ | refine blk_drew ?_ | refine blk_alloc ?_ _)); exact BK635.out)); rintro e w16 ⟨rfl, hb⟩; (try (have db_ : ∀ {w w' : World}, Drawn0 w w' → Below w.heap.size w w' := (by intro w w' h_; obtain ⟨n_, rfl⟩ := h_; exact pw_below_drewN (Below.refl _ _) _); replace hb := db_ hb; clear db_)); refine ⟨_, rfl, ?_⟩; have n0_ := Aside0.mk (blk_below (g := gb635) (o := .cells #[.slice A0_0 l0_0.length c0_0, .slice A0_1 l0_1.length c0_1, .slice A0_2 l0_2.length c0_2, .int .i64 a0_3, .int .i64 a0_4] 33 (0, 0)) (by (with_reducible repeat (first | refine blk_drewN ?_ _ | refine blk_drew ?_ | refine blk_alloc ?_ _)); exact BK635.out) hb); have n1_ := Aside0.mk (below_step (by repeat (first | (with_reducible first | exact HB.out | apply below_alloc | apply pw_below_drewN | apply below_drew1 | refine below_set ?_ GE635.out) | exact HB.out)) hb); clear BK635; clear HB; have BK635 := n0_; have HB := n1_; clear n0_ n1_; (try clear hb); (try clear hb2); (try clear hk); (try clear hi)))
  go_ret3
  exact ⟨by first | rfl | (simp [errW_none, errW_some] <;> rfl) | (simp [*, errW_none, errW_some] <;> rfl) | (simp [Int.tdiv_eq_ediv_of_nonneg, *]; done), by repeat (first | (with_reducible first | exact HB.out | apply below_alloc | apply pw_below_drewN | apply below_drew1 | refine below_set ?_ GE635.out) | exact HB.out)⟩

def impl_FirstFailure.f (k : Nat) (l0_0 : List (S154)) (l0_1 : List Int) (l0_2 : List Int) (a0_3 : Int) (a0_4 : Int) (l1 : List (S106)) : Option (Int × Int × Bool) := (impl_IsPlan.f k l0_0 l0_1 l0_2 a0_3 a0_4 l1).bind fun t642 => (if t642 = true then ((impl_Head_failure.f k l0_0 l0_1 l0_2 a0_3 a0_4 l1).bind fun bt643 => (if bt643.1 < 0 then (some (0, 0, false)) else (some (bt643.1, bt643.2, true)))) else (some (0, 0, false)))
set_option maxHeartbeats 8000000 in
set_option maxRecDepth 100000 in
theorem impl_FirstFailure.calls (k : Nat) (A0_0 : Option Addr) (c0_0 : Nat) (l0_0 : List (S154)) (A0_1 : Option Addr) (c0_1 : Nat) (l0_1 : List Int) (A0_2 : Option Addr) (c0_2 : Nat) (l0_2 : List Int) (a0_3 : Int) (a0_4 : Int) (A1 : Option Addr) (c1 : Nat) (l1 : List (S106)) (r1 : Int) (r2 : Int) (r3 : Bool) (w : World) (hr0_0 : Kd.C k154 w A0_0 l0_0.length l0_0) (hc0_0 : l0_0.length ≤ c0_0) (hr0_1 : Kd.C (Kd.int .i64) w A0_1 l0_1.length l0_1) (hc0_1 : l0_1.length ≤ c0_1) (hr0_2 : Kd.C (Kd.int .i64) w A0_2 l0_2.length l0_2) (hc0_2 : l0_2.length ≤ c0_2) (hr1 : Kd.C k106 w A1 l1.length l1) (hc1 : l1.length ≤ c1) (h : impl_FirstFailure.f k l0_0 l0_1 l0_2 a0_3 a0_4 l1 = some (r1, r2, r3)) :
  Calls Try.prog 41 #[.agg #[.slice A0_0 l0_0.length c0_0, .slice A0_1 l0_1.length c0_1, .slice A0_2 l0_2.length c0_2, .int .i64 a0_3, .int .i64 a0_4], .slice A1 l1.length c1] w fun e w' => e = .returned (.tuple #[.int .i64 r1, .int .i64 r2, .bool r3]) ∧ Below w.heap.size w w' := by
 have hu33 := Try.underlying33
 have HR0_0 := Aside0.mk hr0_0
 have HC0_0 := Aside0.mk hc0_0
 clear hr0_0 hc0_0
 have HR0_1 := Aside0.mk hr0_1
 have HC0_1 := Aside0.mk hc0_1
 clear hr0_1 hc0_1
 have HR0_2 := Aside0.mk hr0_2
 have HC0_2 := Aside0.mk hc0_2
 clear hr0_2 hc0_2
 have HR1 := Aside0.mk hr1
 have HC1 := Aside0.mk hc1
 clear hr1 hc1
 have HB := Aside0.mk (Below.refl w.heap.size w)
 have H : ((impl_IsPlan.f k l0_0 l0_1 l0_2 a0_3 a0_4 l1).bind fun t642 => (if t642 = true then ((impl_Head_failure.f k l0_0 l0_1 l0_2 a0_3 a0_4 l1).bind fun bt643 => (if bt643.1 < 0 then (some (0, 0, false)) else (some (bt643.1, bt643.2, true)))) else (some (0, 0, false)))) = some (r1, r2, r3) := h
 clear h
 replace H := Option.bind_eq_some_iff.mp H
 obtain ⟨t642, A30, H⟩ := H
 replace H : (if t642 = true then ((impl_Head_failure.f k l0_0 l0_1 l0_2 a0_3 a0_4 l1).bind fun bt643 => (if bt643.1 < 0 then (some (0, 0, false)) else (some (bt643.1, bt643.2, true)))) else (some (0, 0, false))) = some (r1, r2, r3) := H
 have A3 := Aside0.mk A30
 clear A30
 by_cases c4 : t642 = true
 ·subst c4
  have H1 : ((impl_Head_failure.f k l0_0 l0_1 l0_2 a0_3 a0_4 l1).bind fun bt643 => (if bt643.1 < 0 then (some (0, 0, false)) else (some (bt643.1, bt643.2, true)))) = some (r1, r2, r3) := by rw [if_pos rfl] at H; exact H
  clear H
  have H := H1
  clear H1
  replace H := Option.bind_eq_some_iff.mp H
  obtain ⟨⟨t643, t644⟩, A50, H⟩ := H
  replace H : (if t643 < 0 then (some (0, 0, false)) else (some (t643, t644, true))) = some (r1, r2, r3) := H
  have A5 := Aside0.mk A50
  clear A50
  by_cases c6 : t643 < 0
  ·rw [if_pos c6] at H
   have c6b0 : decide (t643 < 0) = true := decide_eq_true c6
   clear c6
   simp only [Option.some.injEq, Prod.mk.injEq] at H
   obtain ⟨rfl, rfl, rfl⟩ := H
   go_enter Try.func41, Try.ntmps41
   go_wp2_with (first | ((with_reducible refine gate_dst (N := 2) rfl ?_); refine box_event ?hg (N := 2) ?hd (cs := #[.slice A0_0 l0_0.length c0_0, .slice A0_1 l0_1.length c0_1, .slice A0_2 l0_2.length c0_2, .int .i64 a0_3, .int .i64 a0_4]) (t := 33) ?hr ?_; (case hd => rfl); (case hg => rfl); (case hr => first | (go_simp; done) | (go_simp; rfl)); intro gb641 hg w7 hbox hb; have n0_ := Aside0.mk (below_step (by repeat (first | (with_reducible first | exact HB.out | apply below_alloc | apply pw_below_drewN | apply below_drew1) | exact HB.out)) hb); have n1_ := Aside0.mk (hbox); have n2_ := Aside0.mk ((by rw [hg]; exact (below_size (by repeat (first | (with_reducible first | exact HB.out | apply below_alloc | apply pw_below_drewN | apply below_drew1) | exact HB.out))) : w.heap.size ≤ gb641)); have n3_ := Aside0.mk ((by rw [hg]; exact (below_size (by repeat (first | (with_reducible first | exact HB.out | apply below_alloc | apply pw_below_drewN | apply below_drew1) | exact HB.out))) : w.heap.size ≤ gb641)); clear HB; have HB := n0_; have BK641 := n1_; have GW641 := n2_; have GE641 := n3_; clear n0_ n1_ n2_ n3_; clear hb hbox hg; have hcz8_0 : w7.cell? ⟨gb641, 0, none⟩ = some (.slice A0_0 l0_0.length c0_0) := (blk_cell BK641.out 0).trans rfl; have hcz8_1 : w7.cell? ⟨gb641, 1, none⟩ = some (.slice A0_1 l0_1.length c0_1) := (blk_cell BK641.out 1).trans rfl; have hcz8_2 : w7.cell? ⟨gb641, 2, none⟩ = some (.slice A0_2 l0_2.length c0_2) := (blk_cell BK641.out 2).trans rfl; have hcz8_3 : w7.cell? ⟨gb641, 3, none⟩ = some (.int .i64 a0_3) := (blk_cell BK641.out 3).trans rfl; have hcz8_4 : w7.cell? ⟨gb641, 4, none⟩ = some (.int .i64 a0_4) := (blk_cell BK641.out 4).trans rfl; have hfz8_0 := blk_frozen BK641.out 0; have hfz8_1 := blk_frozen BK641.out 1; have hfz8_2 := blk_frozen BK641.out 2; have hfz8_3 := blk_frozen BK641.out 3; have hfz8_4 := blk_frozen BK641.out 4) | ((with_reducible refine gate_callee (f := 74) rfl ?_); refine goesL_ (some 11) rfl rfl Try.func74 (by kernel_rfl) rfl #[.agg #[.slice A0_0 l0_0.length c0_0, .slice A0_1 l0_1.length c0_1, .slice A0_2 l0_2.length c0_2, .int .i64 a0_3, .int .i64 a0_4], .slice A1 l1.length c1] rfl (by (try simp only [List.map_toArray, List.map_cons, List.map_nil]); first | done | rfl) ?_; (with_reducible refine (impl_IsPlan.calls k _ _ l0_0 _ _ l0_1 _ _ l0_2 a0_3 a0_4 _ _ l1 true _ ?side1 ?side2 ?side3 ?side4 ?side5 ?side6 ?side7 ?side8 A3.out).mono ?_); (case side1 => repeat (first | exact (Kd.C_below HR0_0.out HB.out) | (with_reducible first | refine Kd.C_alloc ?_ _ | refine Kd.C_drewN ?_ _ | refine Kd.C_drew ?_))); (case side2 => exact HC0_0.out); (case side3 => repeat (first | exact (Kd.C_below HR0_1.out HB.out) | (with_reducible first | refine Kd.C_alloc ?_ _ | refine Kd.C_drewN ?_ _ | refine Kd.C_drew ?_))); (case side4 => exact HC0_1.out); (case side5 => repeat (first | exact (Kd.C_below HR0_2.out HB.out) | (with_reducible first | refine Kd.C_alloc ?_ _ | refine Kd.C_drewN ?_ _ | refine Kd.C_drew ?_))); (case side6 => exact HC0_2.out); (case side7 => repeat (first | exact (Kd.C_below HR1.out HB.out) | (with_reducible first | refine Kd.C_alloc ?_ _ | refine Kd.C_drewN ?_ _ | refine Kd.C_drew ?_))); (case side8 => exact HC1.out); rintro e w9 ⟨rfl, hb⟩; refine ⟨_, rfl, ?_⟩; have n0_ := Aside0.mk (blk_below (g := gb641) (o := .cells #[.slice A0_0 l0_0.length c0_0, .slice A0_1 l0_1.length c0_1, .slice A0_2 l0_2.length c0_2, .int .i64 a0_3, .int .i64 a0_4] 33 (0, 0)) (by (with_reducible repeat (first | refine blk_drewN ?_ _ | refine blk_drew ?_ | refine blk_alloc ?_ _)); exact BK641.out) hb); have n1_ := Aside0.mk (below_step (by repeat (first | (with_reducible first | exact HB.out | apply below_alloc | apply pw_below_drewN | apply below_drew1 | refine below_set ?_ GE641.out) | exact HB.out)) hb); clear BK641; clear HB; have BK641 := n0_; have HB := n1_; clear n0_ n1_; (try clear hb); (try clear hb2); (try clear hk); (try clear hi); have hcz10_0 : w9.cell? ⟨gb641, 0, none⟩ = some (.slice A0_0 l0_0.length c0_0) := (blk_cell BK641.out 0).trans rfl; have hcz10_1 : w9.cell? ⟨gb641, 1, none⟩ = some (.slice A0_1 l0_1.length c0_1) := (blk_cell BK641.out 1).trans rfl; have hcz10_2 : w9.cell? ⟨gb641, 2, none⟩ = some (.slice A0_2 l0_2.length c0_2) := (blk_cell BK641.out 2).trans rfl; have hcz10_3 : w9.cell? ⟨gb641, 3, none⟩ = some (.int .i64 a0_3) := (blk_cell BK641.out 3).trans rfl; have hcz10_4 : w9.cell? ⟨gb641, 4, none⟩ = some (.int .i64 a0_4) := (blk_cell BK641.out 4).trans rfl; have hfz10_0 := blk_frozen BK641.out 0; have hfz10_1 := blk_frozen BK641.out 1; have hfz10_2 := blk_frozen BK641.out 2; have hfz10_3 := blk_frozen BK641.out 3; have hfz10_4 := blk_frozen BK641.out 4) | ((with_reducible refine gate_callee (f := 98) rfl ?_); refine goesL_ (some 16) rfl rfl Try.func98 (by kernel_rfl) rfl #[.agg #[.slice A0_0 l0_0.length c0_0, .slice A0_1 l0_1.length c0_1, .slice A0_2 l0_2.length c0_2, .int .i64 a0_3, .int .i64 a0_4], .slice A1 l1.length c1] rfl (by (try simp only [List.map_toArray, List.map_cons, List.map_nil]); first | done | rfl) ?_; (with_reducible refine (impl_Head_failure.calls k _ _ l0_0 _ _ l0_1 _ _ l0_2 a0_3 a0_4 _ _ l1 t643 t644 _ ?side1 ?side2 ?side3 ?side4 ?side5 ?side6 ?side7 ?side8 A5.out).mono ?_); (case side1 => repeat (first | exact (Kd.C_below HR0_0.out HB.out) | (with_reducible first | refine Kd.C_alloc ?_ _ | refine Kd.C_drewN ?_ _ | refine Kd.C_drew ?_))); (case side2 => exact HC0_0.out); (case side3 => repeat (first | exact (Kd.C_below HR0_1.out HB.out) | (with_reducible first | refine Kd.C_alloc ?_ _ | refine Kd.C_drewN ?_ _ | refine Kd.C_drew ?_))); (case side4 => exact HC0_1.out); (case side5 => repeat (first | exact (Kd.C_below HR0_2.out HB.out) | (with_reducible first | refine Kd.C_alloc ?_ _ | refine Kd.C_drewN ?_ _ | refine Kd.C_drew ?_))); (case side6 => exact HC0_2.out); (case side7 => repeat (first | exact (Kd.C_below HR1.out HB.out) | (with_reducible first | refine Kd.C_alloc ?_ _ | refine Kd.C_drewN ?_ _ | refine Kd.C_drew ?_))); (case side8 => exact HC1.out); rintro e w11 ⟨rfl, hb⟩; refine ⟨_, rfl, ?_⟩; have n0_ := Aside0.mk (blk_below (g := gb641) (o := .cells #[.slice A0_0 l0_0.length c0_0, .slice A0_1 l0_1.length c0_1, .slice A0_2 l0_2.length c0_2, .int .i64 a0_3, .int .i64 a0_4] 33 (0, 0)) (by (with_reducible repeat (first | refine blk_drewN ?_ _ | refine blk_drew ?_ | refine blk_alloc ?_ _)); exact BK641.out) hb); have n1_ := Aside0.mk (below_step (by repeat (first | (with_reducible first | exact HB.out | apply below_alloc | apply pw_below_drewN | apply below_drew1 | refine below_set ?_ GE641.out) | exact HB.out)) hb); clear BK641; clear HB; have BK641 := n0_; have HB := n1_; clear n0_ n1_; (try clear hb); (try clear hb2); (try clear hk); (try clear hi)))
   go_ret3
   exact ⟨by first | rfl | (simp [errW_none, errW_some] <;> rfl) | (simp [*, errW_none, errW_some] <;> rfl) | (simp [Int.tdiv_eq_ediv_of_nonneg, *]; done), by repeat (first | (with_reducible first | exact HB.out | apply below_alloc | apply pw_below_drewN | apply below_drew1 | refine below_set ?_ GE641.out) | exact HB.out)⟩
  ·rw [if_neg c6] at H
   have c6b0 : decide (t643 < 0) = false := decide_eq_false c6
   clear c6
   simp only [Option.some.injEq, Prod.mk.injEq] at H
   obtain ⟨rfl, rfl, rfl⟩ := H
   go_enter Try.func41, Try.ntmps41
   go_wp2_with (first | ((with_reducible refine gate_dst (N := 2) rfl ?_); refine box_event ?hg (N := 2) ?hd (cs := #[.slice A0_0 l0_0.length c0_0, .slice A0_1 l0_1.length c0_1, .slice A0_2 l0_2.length c0_2, .int .i64 a0_3, .int .i64 a0_4]) (t := 33) ?hr ?_; (case hd => rfl); (case hg => rfl); (case hr => first | (go_simp; done) | (go_simp; rfl)); intro gb641 hg w12 hbox hb; have n0_ := Aside0.mk (below_step (by repeat (first | (with_reducible first | exact HB.out | apply below_alloc | apply pw_below_drewN | apply below_drew1) | exact HB.out)) hb); have n1_ := Aside0.mk (hbox); have n2_ := Aside0.mk ((by rw [hg]; exact (below_size (by repeat (first | (with_reducible first | exact HB.out | apply below_alloc | apply pw_below_drewN | apply below_drew1) | exact HB.out))) : w.heap.size ≤ gb641)); have n3_ := Aside0.mk ((by rw [hg]; exact (below_size (by repeat (first | (with_reducible first | exact HB.out | apply below_alloc | apply pw_below_drewN | apply below_drew1) | exact HB.out))) : w.heap.size ≤ gb641)); clear HB; have HB := n0_; have BK641 := n1_; have GW641 := n2_; have GE641 := n3_; clear n0_ n1_ n2_ n3_; clear hb hbox hg; have hcz13_0 : w12.cell? ⟨gb641, 0, none⟩ = some (.slice A0_0 l0_0.length c0_0) := (blk_cell BK641.out 0).trans rfl; have hcz13_1 : w12.cell? ⟨gb641, 1, none⟩ = some (.slice A0_1 l0_1.length c0_1) := (blk_cell BK641.out 1).trans rfl; have hcz13_2 : w12.cell? ⟨gb641, 2, none⟩ = some (.slice A0_2 l0_2.length c0_2) := (blk_cell BK641.out 2).trans rfl; have hcz13_3 : w12.cell? ⟨gb641, 3, none⟩ = some (.int .i64 a0_3) := (blk_cell BK641.out 3).trans rfl; have hcz13_4 : w12.cell? ⟨gb641, 4, none⟩ = some (.int .i64 a0_4) := (blk_cell BK641.out 4).trans rfl; have hfz13_0 := blk_frozen BK641.out 0; have hfz13_1 := blk_frozen BK641.out 1; have hfz13_2 := blk_frozen BK641.out 2; have hfz13_3 := blk_frozen BK641.out 3; have hfz13_4 := blk_frozen BK641.out 4) | ((with_reducible refine gate_callee (f := 74) rfl ?_); refine goesL_ (some 11) rfl rfl Try.func74 (by kernel_rfl) rfl #[.agg #[.slice A0_0 l0_0.length c0_0, .slice A0_1 l0_1.length c0_1, .slice A0_2 l0_2.length c0_2, .int .i64 a0_3, .int .i64 a0_4], .slice A1 l1.length c1] rfl (by (try simp only [List.map_toArray, List.map_cons, List.map_nil]); first | done | rfl) ?_; (with_reducible refine (impl_IsPlan.calls k _ _ l0_0 _ _ l0_1 _ _ l0_2 a0_3 a0_4 _ _ l1 true _ ?side1 ?side2 ?side3 ?side4 ?side5 ?side6 ?side7 ?side8 A3.out).mono ?_); (case side1 => repeat (first | exact (Kd.C_below HR0_0.out HB.out) | (with_reducible first | refine Kd.C_alloc ?_ _ | refine Kd.C_drewN ?_ _ | refine Kd.C_drew ?_))); (case side2 => exact HC0_0.out); (case side3 => repeat (first | exact (Kd.C_below HR0_1.out HB.out) | (with_reducible first | refine Kd.C_alloc ?_ _ | refine Kd.C_drewN ?_ _ | refine Kd.C_drew ?_))); (case side4 => exact HC0_1.out); (case side5 => repeat (first | exact (Kd.C_below HR0_2.out HB.out) | (with_reducible first | refine Kd.C_alloc ?_ _ | refine Kd.C_drewN ?_ _ | refine Kd.C_drew ?_))); (case side6 => exact HC0_2.out); (case side7 => repeat (first | exact (Kd.C_below HR1.out HB.out) | (with_reducible first | refine Kd.C_alloc ?_ _ | refine Kd.C_drewN ?_ _ | refine Kd.C_drew ?_))); (case side8 => exact HC1.out); rintro e w14 ⟨rfl, hb⟩; refine ⟨_, rfl, ?_⟩; have n0_ := Aside0.mk (blk_below (g := gb641) (o := .cells #[.slice A0_0 l0_0.length c0_0, .slice A0_1 l0_1.length c0_1, .slice A0_2 l0_2.length c0_2, .int .i64 a0_3, .int .i64 a0_4] 33 (0, 0)) (by (with_reducible repeat (first | refine blk_drewN ?_ _ | refine blk_drew ?_ | refine blk_alloc ?_ _)); exact BK641.out) hb); have n1_ := Aside0.mk (below_step (by repeat (first | (with_reducible first | exact HB.out | apply below_alloc | apply pw_below_drewN | apply below_drew1 | refine below_set ?_ GE641.out) | exact HB.out)) hb); clear BK641; clear HB; have BK641 := n0_; have HB := n1_; clear n0_ n1_; (try clear hb); (try clear hb2); (try clear hk); (try clear hi); have hcz15_0 : w14.cell? ⟨gb641, 0, none⟩ = some (.slice A0_0 l0_0.length c0_0) := (blk_cell BK641.out 0).trans rfl; have hcz15_1 : w14.cell? ⟨gb641, 1, none⟩ = some (.slice A0_1 l0_1.length c0_1) := (blk_cell BK641.out 1).trans rfl; have hcz15_2 : w14.cell? ⟨gb641, 2, none⟩ = some (.slice A0_2 l0_2.length c0_2) := (blk_cell BK641.out 2).trans rfl; have hcz15_3 : w14.cell? ⟨gb641, 3, none⟩ = some (.int .i64 a0_3) := (blk_cell BK641.out 3).trans rfl; have hcz15_4 : w14.cell? ⟨gb641, 4, none⟩ = some (.int .i64 a0_4) := (blk_cell BK641.out 4).trans rfl; have hfz15_0 := blk_frozen BK641.out 0; have hfz15_1 := blk_frozen BK641.out 1; have hfz15_2 := blk_frozen BK641.out 2; have hfz15_3 := blk_frozen BK641.out 3; have hfz15_4 := blk_frozen BK641.out 4) | ((with_reducible refine gate_callee (f := 98) rfl ?_); refine goesL_ (some 16) rfl rfl Try.func98 (by kernel_rfl) rfl #[.agg #[.slice A0_0 l0_0.length c0_0, .slice A0_1 l0_1.length c0_1, .slice A0_2 l0_2.length c0_2, .int .i64 a0_3, .int .i64 a0_4], .slice A1 l1.length c1] rfl (by (try simp only [List.map_toArray, List.map_cons, List.map_nil]); first | done | rfl) ?_; (with_reducible refine (impl_Head_failure.calls k _ _ l0_0 _ _ l0_1 _ _ l0_2 a0_3 a0_4 _ _ l1 t643 t644 _ ?side1 ?side2 ?side3 ?side4 ?side5 ?side6 ?side7 ?side8 A5.out).mono ?_); (case side1 => repeat (first | exact (Kd.C_below HR0_0.out HB.out) | (with_reducible first | refine Kd.C_alloc ?_ _ | refine Kd.C_drewN ?_ _ | refine Kd.C_drew ?_))); (case side2 => exact HC0_0.out); (case side3 => repeat (first | exact (Kd.C_below HR0_1.out HB.out) | (with_reducible first | refine Kd.C_alloc ?_ _ | refine Kd.C_drewN ?_ _ | refine Kd.C_drew ?_))); (case side4 => exact HC0_1.out); (case side5 => repeat (first | exact (Kd.C_below HR0_2.out HB.out) | (with_reducible first | refine Kd.C_alloc ?_ _ | refine Kd.C_drewN ?_ _ | refine Kd.C_drew ?_))); (case side6 => exact HC0_2.out); (case side7 => repeat (first | exact (Kd.C_below HR1.out HB.out) | (with_reducible first | refine Kd.C_alloc ?_ _ | refine Kd.C_drewN ?_ _ | refine Kd.C_drew ?_))); (case side8 => exact HC1.out); rintro e w16 ⟨rfl, hb⟩; refine ⟨_, rfl, ?_⟩; have n0_ := Aside0.mk (blk_below (g := gb641) (o := .cells #[.slice A0_0 l0_0.length c0_0, .slice A0_1 l0_1.length c0_1, .slice A0_2 l0_2.length c0_2, .int .i64 a0_3, .int .i64 a0_4] 33 (0, 0)) (by (with_reducible repeat (first | refine blk_drewN ?_ _ | refine blk_drew ?_ | refine blk_alloc ?_ _)); exact BK641.out) hb); have n1_ := Aside0.mk (below_step (by repeat (first | (with_reducible first | exact HB.out | apply below_alloc | apply pw_below_drewN | apply below_drew1 | refine below_set ?_ GE641.out) | exact HB.out)) hb); clear BK641; clear HB; have BK641 := n0_; have HB := n1_; clear n0_ n1_; (try clear hb); (try clear hb2); (try clear hk); (try clear hi)))
   go_ret3
   exact ⟨by first | rfl | (simp [errW_none, errW_some] <;> rfl) | (simp [*, errW_none, errW_some] <;> rfl) | (simp [Int.tdiv_eq_ediv_of_nonneg, *]; done), by repeat (first | (with_reducible first | exact HB.out | apply below_alloc | apply pw_below_drewN | apply below_drew1 | refine below_set ?_ GE641.out) | exact HB.out)⟩
 ·replace c4 := Bool.eq_false_iff.mpr c4
  subst c4
  have H1 : (some (0, 0, false)) = some (r1, r2, r3) := by rw [if_neg (show ¬ (false = true) by decide)] at H; exact H
  clear H
  have H := H1
  clear H1
  simp only [Option.some.injEq, Prod.mk.injEq] at H
  obtain ⟨rfl, rfl, rfl⟩ := H
  go_enter Try.func41, Try.ntmps41
  go_wp2_with (first | ((with_reducible refine gate_dst (N := 2) rfl ?_); refine box_event ?hg (N := 2) ?hd (cs := #[.slice A0_0 l0_0.length c0_0, .slice A0_1 l0_1.length c0_1, .slice A0_2 l0_2.length c0_2, .int .i64 a0_3, .int .i64 a0_4]) (t := 33) ?hr ?_; (case hd => rfl); (case hg => rfl); (case hr => first | (go_simp; done) | (go_simp; rfl)); intro gb641 hg w17 hbox hb; have n0_ := Aside0.mk (below_step (by repeat (first | (with_reducible first | exact HB.out | apply below_alloc | apply pw_below_drewN | apply below_drew1) | exact HB.out)) hb); have n1_ := Aside0.mk (hbox); have n2_ := Aside0.mk ((by rw [hg]; exact (below_size (by repeat (first | (with_reducible first | exact HB.out | apply below_alloc | apply pw_below_drewN | apply below_drew1) | exact HB.out))) : w.heap.size ≤ gb641)); have n3_ := Aside0.mk ((by rw [hg]; exact (below_size (by repeat (first | (with_reducible first | exact HB.out | apply below_alloc | apply pw_below_drewN | apply below_drew1) | exact HB.out))) : w.heap.size ≤ gb641)); clear HB; have HB := n0_; have BK641 := n1_; have GW641 := n2_; have GE641 := n3_; clear n0_ n1_ n2_ n3_; clear hb hbox hg; have hcz18_0 : w17.cell? ⟨gb641, 0, none⟩ = some (.slice A0_0 l0_0.length c0_0) := (blk_cell BK641.out 0).trans rfl; have hcz18_1 : w17.cell? ⟨gb641, 1, none⟩ = some (.slice A0_1 l0_1.length c0_1) := (blk_cell BK641.out 1).trans rfl; have hcz18_2 : w17.cell? ⟨gb641, 2, none⟩ = some (.slice A0_2 l0_2.length c0_2) := (blk_cell BK641.out 2).trans rfl; have hcz18_3 : w17.cell? ⟨gb641, 3, none⟩ = some (.int .i64 a0_3) := (blk_cell BK641.out 3).trans rfl; have hcz18_4 : w17.cell? ⟨gb641, 4, none⟩ = some (.int .i64 a0_4) := (blk_cell BK641.out 4).trans rfl; have hfz18_0 := blk_frozen BK641.out 0; have hfz18_1 := blk_frozen BK641.out 1; have hfz18_2 := blk_frozen BK641.out 2; have hfz18_3 := blk_frozen BK641.out 3; have hfz18_4 := blk_frozen BK641.out 4) | ((with_reducible refine gate_callee (f := 74) rfl ?_); refine goesL_ (some 11) rfl rfl Try.func74 (by kernel_rfl) rfl #[.agg #[.slice A0_0 l0_0.length c0_0, .slice A0_1 l0_1.length c0_1, .slice A0_2 l0_2.length c0_2, .int .i64 a0_3, .int .i64 a0_4], .slice A1 l1.length c1] rfl (by (try simp only [List.map_toArray, List.map_cons, List.map_nil]); first | done | rfl) ?_; (with_reducible refine (impl_IsPlan.calls k _ _ l0_0 _ _ l0_1 _ _ l0_2 a0_3 a0_4 _ _ l1 false _ ?side1 ?side2 ?side3 ?side4 ?side5 ?side6 ?side7 ?side8 A3.out).mono ?_); (case side1 => repeat (first | exact (Kd.C_below HR0_0.out HB.out) | (with_reducible first | refine Kd.C_alloc ?_ _ | refine Kd.C_drewN ?_ _ | refine Kd.C_drew ?_))); (case side2 => exact HC0_0.out); (case side3 => repeat (first | exact (Kd.C_below HR0_1.out HB.out) | (with_reducible first | refine Kd.C_alloc ?_ _ | refine Kd.C_drewN ?_ _ | refine Kd.C_drew ?_))); (case side4 => exact HC0_1.out); (case side5 => repeat (first | exact (Kd.C_below HR0_2.out HB.out) | (with_reducible first | refine Kd.C_alloc ?_ _ | refine Kd.C_drewN ?_ _ | refine Kd.C_drew ?_))); (case side6 => exact HC0_2.out); (case side7 => repeat (first | exact (Kd.C_below HR1.out HB.out) | (with_reducible first | refine Kd.C_alloc ?_ _ | refine Kd.C_drewN ?_ _ | refine Kd.C_drew ?_))); (case side8 => exact HC1.out); rintro e w19 ⟨rfl, hb⟩; refine ⟨_, rfl, ?_⟩; have n0_ := Aside0.mk (blk_below (g := gb641) (o := .cells #[.slice A0_0 l0_0.length c0_0, .slice A0_1 l0_1.length c0_1, .slice A0_2 l0_2.length c0_2, .int .i64 a0_3, .int .i64 a0_4] 33 (0, 0)) (by (with_reducible repeat (first | refine blk_drewN ?_ _ | refine blk_drew ?_ | refine blk_alloc ?_ _)); exact BK641.out) hb); have n1_ := Aside0.mk (below_step (by repeat (first | (with_reducible first | exact HB.out | apply below_alloc | apply pw_below_drewN | apply below_drew1 | refine below_set ?_ GE641.out) | exact HB.out)) hb); clear BK641; clear HB; have BK641 := n0_; have HB := n1_; clear n0_ n1_; (try clear hb); (try clear hb2); (try clear hk); (try clear hi)))
  go_ret3
  exact ⟨by first | rfl | (simp [errW_none, errW_some] <;> rfl) | (simp [*, errW_none, errW_some] <;> rfl) | (simp [Int.tdiv_eq_ediv_of_nonneg, *]; done), by repeat (first | (with_reducible first | exact HB.out | apply below_alloc | apply pw_below_drewN | apply below_drew1 | refine below_set ?_ GE641.out) | exact HB.out)⟩

end Go.Proofs.Ytagmaflnnaonjaa.P
