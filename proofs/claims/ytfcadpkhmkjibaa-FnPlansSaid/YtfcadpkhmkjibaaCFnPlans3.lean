/- What the claim of FnPlans bears, part 3: functions of the program as plain Lean functions, with proofs that the code comes to their answers, and lemmas on them. -/
import Derived.Test.YtfcadpkhmkjibaaCFnPlans0
import Derived.Test.YtfcadpkhmkjibaaCFnPlans2
import Derived.Test.YtfcadpkhmkjibaaCFnPlans1
namespace Go.Proofs.Ytfcadpkhmkjibaa.P
open Go.RowKit Go.Proofs.YtfcadpkhmkjibaaW.PrintWords Go.Proofs.YtfcadpkhmkjibaaW.PrintLast Go.Proofs.YtfcadpkhmkjibaaW.PrintMore
attribute [local go_sem] max2_int min2_int max_two min_two max_three min_three max_four min_four   -- for this text's walks alone
set_option linter.unusedVariables false
set_option linter.unusedSimpArgs false

def laws_r8Has.l0 : Nat → List Int → Int → Int → Option (Bool)
 | 0, _, _, _ => none
 | k + 1, x0, x1, x5 => if x5 < (x0.length : Int) then (if 0 ≤ x5 then (if (rd x0 x5) = x1 then (some true) else (laws_r8Has.l0 k x0 x1 (wrap64 (x5 + 1)))) else (none)) else (some false)
def laws_r8Has.f (k : Nat) (l0 : List Int) (a1 : Int) : Option (Bool) := laws_r8Has.l0 k l0 a1 0
set_option maxHeartbeats 8000000 in
set_option maxRecDepth 100000 in
theorem laws_r8Has.calls (k : Nat) (A0 : Option Addr) (c0 : Nat) (l0 : List Int) (a1 : Int) (r : Bool) (w : World) (hr0 : Kd.C (Kd.int .i64) w A0 l0.length l0) (hc0 : l0.length ≤ c0) (h : laws_r8Has.f k l0 a1 = some r) :
  Calls Try.prog 15 #[.slice A0 l0.length c0, .int .i64 a1] w fun e w' => e = .returned (.bool r) ∧ Drawn0 w w' := by
 have HR0 := Aside0.mk hr0
 have HC0 := Aside0.mk hc0
 clear hr0 hc0
 have H : (laws_r8Has.l0 k l0 a1 0) = some r := h
 clear h
 have H' := Aside0.mk H
 clear H
 go_enter Try.func15, Try.ntmps15
 go_wp2
 go_loopg [5] k (fun kq v5 w' => ∃ (x5_1 : Int), v5 = .int .i64 x5_1 ∧ Aside0 (laws_r8Has.l0 kq l0 a1 x5_1 = some r) ∧ Aside0 (kq ≤ k) ∧ Drawn0 w w')
 case atStart => exact ⟨(0), (by first | rfl | (simp; done) | (simp [*]; done) | (simp [Int.tdiv_eq_ediv_of_nonneg, *]; done)), H', ⟨Nat.le_refl _⟩, by repeat (first | exact Drawn0.refl _ | apply Drawn0.step)⟩
 case round =>
  clear H'
  try clear c1
  try clear p2
  obtain ⟨x5_1, rfl, HA, HK1, ⟨m1, rfl⟩⟩ := hrel
  cases gk with
  | zero => exact absurd HA.out (by simp [laws_r8Has.l0])
  | succ k1 =>
   have H := HA.out
   clear HA
   simp only [laws_r8Has.l0] at H
   by_cases c3 : x5_1 < (l0.length : Int)
   ·rw [if_pos c3] at H
    have c3b0 : decide (x5_1 < (l0.length : Int)) = true := decide_eq_true c3
    clear c3
    by_cases c4 : 0 ≤ x5_1
    ·rw [if_pos c4] at H
     have c4b0 : decide (0 ≤ x5_1) = true := decide_eq_true c4
     clear c4
     by_cases c5 : (rd l0 x5_1) = a1
     ·rw [if_pos c5] at H
      have c5b0 : ((rd l0 x5_1) == a1) = true := beq_iff_eq.mpr c5
      have c5b1 : ((rd l0 x5_1) != a1) = false := bne_eq_false_iff_eq.mpr c5
      clear c5
      obtain rfl := Option.some.inj H
      have p302 : 0 ≤ (x5_1 : Int) := of_decide_eq_true (by first | (with_reducible assumption) | assumption)
      have q302 : x5_1 < (l0.length : Int) := of_decide_eq_true (by first | (with_reducible assumption) | assumption)
      obtain ⟨ad302, e302, hx302_0⟩ := Kd.at_int HR0.out x5_1 p302 q302
      cases e302
      replace p302 := eq_true p302
      replace q302 := eq_true q302
      go_wp2
      go_ret
      exact ⟨by first | rfl | (simp; done) | (simp [*]; done) | (simp [Int.tdiv_eq_ediv_of_nonneg, *]; done), by repeat (first | exact Drawn0.refl _ | apply Drawn0.step)⟩
     ·rw [if_neg c5] at H
      have c5b0 : ((rd l0 x5_1) == a1) = false := beq_eq_false_iff_ne.mpr c5
      have c5b1 : ((rd l0 x5_1) != a1) = true := bne_iff_ne.mpr c5
      have H' := Aside0.mk H
      clear H
      have p302 : 0 ≤ (x5_1 : Int) := of_decide_eq_true (by first | (with_reducible assumption) | assumption)
      have q302 : x5_1 < (l0.length : Int) := of_decide_eq_true (by first | (with_reducible assumption) | assumption)
      obtain ⟨ad302, e302, hx302_0⟩ := Kd.at_int HR0.out x5_1 p302 q302
      cases e302
      replace p302 := eq_true p302
      replace q302 := eq_true q302
      go_wp2
      go_roundg k1
      case measure => have := HK1.out; omega
      case rel => exact ⟨(wrap64 (x5_1 + 1)), (by first | rfl | (simp; done) | (simp [*]; done) | (simp [Int.tdiv_eq_ediv_of_nonneg, *]; done)), H', ⟨by have := HK1.out; omega⟩, by repeat (first | exact Drawn0.refl _ | apply Drawn0.step)⟩
    ·rw [if_neg c4] at H
     exact absurd H (by simp)
   ·rw [if_neg c3] at H
    have c3b0 : decide (x5_1 < (l0.length : Int)) = false := decide_eq_false c3
    clear c3
    obtain rfl := Option.some.inj H
    go_wp2
    go_ret
    exact ⟨by first | rfl | (simp; done) | (simp [*]; done) | (simp [Int.tdiv_eq_ediv_of_nonneg, *]; done), by repeat (first | exact Drawn0.refl _ | apply Drawn0.step)⟩

end Go.Proofs.Ytfcadpkhmkjibaa.P
namespace Go.Proofs.Ytfcadpkhmkjibaa.P
open Go.RowKit Go.Proofs.YtfcadpkhmkjibaaW.PrintWords Go.Proofs.YtfcadpkhmkjibaaW.PrintLast Go.Proofs.YtfcadpkhmkjibaaW.PrintMore
attribute [local go_sem] max2_int min2_int max_two min_two max_three min_three max_four min_four   -- for this text's walks alone
set_option linter.unusedVariables false
set_option linter.unusedSimpArgs false

def laws_r8Count.l0 : Nat → List (S49) → Int → Int → Int → Option (Int)
 | 0, _, _, _, _ => none
 | k + 1, x0, x1, x5, x6 => if x6 < (x0.length : Int) then (if 0 ≤ x6 then ((laws_r8Has.f k ((rd_T49 x0 x6).f1) x1).bind fun t462 => (if t462 = true then (laws_r8Count.l0 k x0 x1 (wrap64 (x5 + 1)) (wrap64 (x6 + 1))) else (laws_r8Count.l0 k x0 x1 x5 (wrap64 (x6 + 1))))) else (none)) else (some x5)
def laws_r8Count.f (k : Nat) (l0 : List (S49)) (a1 : Int) : Option (Int) := laws_r8Count.l0 k l0 a1 0 0
set_option maxHeartbeats 8000000 in
set_option maxRecDepth 100000 in
theorem laws_r8Count.calls (k : Nat) (A0 : Option Addr) (c0 : Nat) (l0 : List (S49)) (a1 : Int) (r : Int) (w : World) (hr0 : Kd.C k49 w A0 l0.length l0) (hc0 : l0.length ≤ c0) (h : laws_r8Count.f k l0 a1 = some r) :
  Calls Try.prog 22 #[.slice A0 l0.length c0, .int .i64 a1] w fun e w' => e = .returned (.int .i64 r) ∧ Drawn0 w w' := by
 have HR0 := Aside0.mk hr0
 have HC0 := Aside0.mk hc0
 clear hr0 hc0
 have H : (laws_r8Count.l0 k l0 a1 0 0) = some r := h
 clear h
 have H' := Aside0.mk H
 clear H
 go_enter Try.func22, Try.ntmps22
 go_wp2
 go_loopg [5, 6] k (fun kq v5 v6 w' => ∃ (x5_1 : Int) (x6_1 : Int), v5 = .int .i64 x5_1 ∧ v6 = .int .i64 x6_1 ∧ Aside0 (laws_r8Count.l0 kq l0 a1 x5_1 x6_1 = some r) ∧ Aside0 (kq ≤ k) ∧ Drawn0 w w')
 case atStart => exact ⟨(0), (0), (by first | rfl | (simp; done) | (simp [*]; done) | (simp [Int.tdiv_eq_ediv_of_nonneg, *]; done)), (by first | rfl | (simp; done) | (simp [*]; done) | (simp [Int.tdiv_eq_ediv_of_nonneg, *]; done)), H', ⟨Nat.le_refl _⟩, by repeat (first | exact Drawn0.refl _ | apply Drawn0.step)⟩
 case round =>
  clear H'
  try clear c2
  try clear p2
  obtain ⟨x5_1, x6_1, rfl, rfl, HA, HK1, ⟨m1, rfl⟩⟩ := hrel
  cases gk with
  | zero => exact absurd HA.out (by simp [laws_r8Count.l0])
  | succ k1 =>
   have H := HA.out
   clear HA
   simp only [laws_r8Count.l0] at H
   by_cases c3 : x6_1 < (l0.length : Int)
   ·rw [if_pos c3] at H
    have c3b0 : decide (x6_1 < (l0.length : Int)) = true := decide_eq_true c3
    clear c3
    by_cases c4 : 0 ≤ x6_1
    ·rw [if_pos c4] at H
     have c4b0 : decide (0 ≤ x6_1) = true := decide_eq_true c4
     clear c4
     replace H := Option.bind_eq_some_iff.mp H
     obtain ⟨t462, A50, H⟩ := H
     replace H : (if t462 = true then (laws_r8Count.l0 k1 l0 a1 (wrap64 (x5_1 + 1)) (wrap64 (x6_1 + 1))) else (laws_r8Count.l0 k1 l0 a1 x5_1 (wrap64 (x6_1 + 1)))) = some r := H
     have A5 := Aside0.mk A50
     clear A50
     by_cases c6 : t462 = true
     ·subst c6
      have H1 : (laws_r8Count.l0 k1 l0 a1 (wrap64 (x5_1 + 1)) (wrap64 (x6_1 + 1))) = some r := by rw [if_pos rfl] at H; exact H
      clear H
      have H := H1
      clear H1
      have H' := Aside0.mk H
      clear H
      have p461 : 0 ≤ (x6_1 : Int) := of_decide_eq_true (by first | (with_reducible assumption) | assumption)
      have q461 : x6_1 < (l0.length : Int) := of_decide_eq_true (by first | (with_reducible assumption) | assumption)
      obtain ⟨ad461, A461_1, c461_1, e461, hx461_0, hx461_1, hl461_1, hi461_1⟩ := at_T49 HR0.out x6_1 p461 q461
      cases e461
      have HR461_1 := Aside0.mk hi461_1
      have HC461_1 := Aside0.mk hl461_1
      clear hi461_1 hl461_1
      replace p461 := eq_true p461
      replace q461 := eq_true q461
      go_wp2_with (first | ((with_reducible refine gate_callee (f := 15) rfl ?_); refine goesL_ (some 19) rfl rfl Try.func15 (by kernel_rfl) rfl #[.slice A461_1 ((rd_T49 l0 x6_1).f1).length c461_1, .int .i64 a1] rfl (by (try simp only [List.map_toArray, List.map_cons, List.map_nil]); first | done | rfl | (simp only [List.length_drop, List.length_take]; rfl)) ?_; (with_reducible refine (laws_r8Has.calls k1 _ _ ((rd_T49 l0 x6_1).f1) a1 true _ ?side1 ?side2 A5.out).mono ?_); (case side1 => repeat (first | exact HR461_1.out | (with_reducible refine Kd.C_alloc ?_ _) | (with_reducible refine Kd.C_drewN ?_ _) | (with_reducible refine Kd.C_drew ?_))); (case side2 => exact HC461_1.out); rintro e w' ⟨rfl, ⟨nd, rfl⟩⟩; refine ⟨_, rfl, ?_⟩))
      go_roundg k1
      case measure => have := HK1.out; omega
      case rel => exact ⟨(wrap64 (x5_1 + 1)), (wrap64 (x6_1 + 1)), (by first | rfl | (simp; done) | (simp [*]; done) | (simp [Int.tdiv_eq_ediv_of_nonneg, *]; done)), (by first | rfl | (simp; done) | (simp [*]; done) | (simp [Int.tdiv_eq_ediv_of_nonneg, *]; done)), H', ⟨by have := HK1.out; omega⟩, by repeat (first | exact Drawn0.refl _ | apply Drawn0.step)⟩
     ·replace c6 := Bool.eq_false_iff.mpr c6
      subst c6
      have H1 : (laws_r8Count.l0 k1 l0 a1 x5_1 (wrap64 (x6_1 + 1))) = some r := by rw [if_neg (show ¬ (false = true) by decide)] at H; exact H
      clear H
      have H := H1
      clear H1
      have H' := Aside0.mk H
      clear H
      have p461 : 0 ≤ (x6_1 : Int) := of_decide_eq_true (by first | (with_reducible assumption) | assumption)
      have q461 : x6_1 < (l0.length : Int) := of_decide_eq_true (by first | (with_reducible assumption) | assumption)
      obtain ⟨ad461, A461_1, c461_1, e461, hx461_0, hx461_1, hl461_1, hi461_1⟩ := at_T49 HR0.out x6_1 p461 q461
      cases e461
      have HR461_1 := Aside0.mk hi461_1
      have HC461_1 := Aside0.mk hl461_1
      clear hi461_1 hl461_1
      replace p461 := eq_true p461
      replace q461 := eq_true q461
      go_wp2_with (first | ((with_reducible refine gate_callee (f := 15) rfl ?_); refine goesL_ (some 19) rfl rfl Try.func15 (by kernel_rfl) rfl #[.slice A461_1 ((rd_T49 l0 x6_1).f1).length c461_1, .int .i64 a1] rfl (by (try simp only [List.map_toArray, List.map_cons, List.map_nil]); first | done | rfl | (simp only [List.length_drop, List.length_take]; rfl)) ?_; (with_reducible refine (laws_r8Has.calls k1 _ _ ((rd_T49 l0 x6_1).f1) a1 false _ ?side1 ?side2 A5.out).mono ?_); (case side1 => repeat (first | exact HR461_1.out | (with_reducible refine Kd.C_alloc ?_ _) | (with_reducible refine Kd.C_drewN ?_ _) | (with_reducible refine Kd.C_drew ?_))); (case side2 => exact HC461_1.out); rintro e w' ⟨rfl, ⟨nd, rfl⟩⟩; refine ⟨_, rfl, ?_⟩))
      go_roundg k1
      case measure => have := HK1.out; omega
      case rel => exact ⟨(x5_1), (wrap64 (x6_1 + 1)), (by first | rfl | (simp; done) | (simp [*]; done) | (simp [Int.tdiv_eq_ediv_of_nonneg, *]; done)), (by first | rfl | (simp; done) | (simp [*]; done) | (simp [Int.tdiv_eq_ediv_of_nonneg, *]; done)), H', ⟨by have := HK1.out; omega⟩, by repeat (first | exact Drawn0.refl _ | apply Drawn0.step)⟩
    ·rw [if_neg c4] at H
     exact absurd H (by simp)
   ·rw [if_neg c3] at H
    have c3b0 : decide (x6_1 < (l0.length : Int)) = false := decide_eq_false c3
    clear c3
    obtain rfl := Option.some.inj H
    go_wp2
    go_ret
    exact ⟨by first | rfl | (simp; done) | (simp [*]; done) | (simp [Int.tdiv_eq_ediv_of_nonneg, *]; done), by repeat (first | exact Drawn0.refl _ | apply Drawn0.step)⟩

end Go.Proofs.Ytfcadpkhmkjibaa.P
namespace Go.Proofs.Ytfcadpkhmkjibaa.P
open Go.RowKit Go.Proofs.YtfcadpkhmkjibaaW.PrintWords Go.Proofs.YtfcadpkhmkjibaaW.PrintLast Go.Proofs.YtfcadpkhmkjibaaW.PrintMore
attribute [local go_sem] max2_int min2_int max_two min_two max_three min_three max_four min_four   -- for this text's walks alone
set_option linter.unusedVariables false
set_option linter.unusedSimpArgs false

mutual
def laws_FnPlans.l0 : Nat → List (S49) → List Int → Int → List (S34) → List Int → List Int → Int → Int → Option (Bool)
 | 0, _, _, _, _, _, _, _, _ => none
 | k + 1, x6, x7, x8, x476000, x476001, x476002, x476003, x476004 => if x8 < (x6.length : Int) then (if 0 ≤ x8 then (if x7.length < 17592186044416 then (laws_FnPlans.l0 k x6 (x7 ++ [(rd_T49 x6 x8).f0]) (wrap64 (x8 + 1)) x476000 x476001 x476002 x476003 x476004) else (none)) else (none)) else ((impl_PlanFor.f k x476000 x476001 x476002 x476003 x476004 x7).bind fun bt486 => ((impl_CostOf.f k x476000 x476001 x476002 x476003 x476004 x6).bind fun bt490 => (if bt490.2 = true then (if bt486.2 = true then ((impl_IsEnough.f k x476000 x476001 x476002 x476003 x476004 bt486.1).bind fun t492 => (if t492 = true then ((impl_IsEnough.f k x476000 x476001 x476002 x476003 x476004 x6).bind fun t493 => (if t493 = true then (laws_FnPlans.j1 k x6 bt486.1 bt486.2 bt490.1 (!bt486.2) x476000 x476001 x476002 x476003 x476004) else (laws_FnPlans.j1 k x6 bt486.1 bt486.2 bt490.1 false x476000 x476001 x476002 x476003 x476004))) else (laws_FnPlans.j1 k x6 bt486.1 bt486.2 bt490.1 true x476000 x476001 x476002 x476003 x476004))) else ((impl_IsEnough.f k x476000 x476001 x476002 x476003 x476004 x6).bind fun t494 => (if t494 = true then (laws_FnPlans.j1 k x6 bt486.1 bt486.2 bt490.1 (!bt486.2) x476000 x476001 x476002 x476003 x476004) else (laws_FnPlans.j1 k x6 bt486.1 bt486.2 bt490.1 false x476000 x476001 x476002 x476003 x476004)))) else (laws_FnPlans.j1 k x6 bt486.1 bt486.2 bt490.1 true x476000 x476001 x476002 x476003 x476004))))
def laws_FnPlans.j1 : Nat → List (S49) → List (S49) → Bool → Int → Bool → List (S34) → List Int → List Int → Int → Int → Option (Bool)
 | 0, _, _, _, _, _, _, _, _, _, _ => none
 | k + 1, x6, x9, x10, x11, x70, x476000, x476001, x476002, x476003, x476004 => if x70 = true then (some false) else (if x10 = true then ((impl_IsEnough.f k x476000 x476001 x476002 x476003 x476004 x6).bind fun t495 => (laws_FnPlans.j2 k x6 x9 x11 (!t495) x476000 x476001 x476002 x476003 x476004)) else (laws_FnPlans.j2 k x6 x9 x11 true x476000 x476001 x476002 x476003 x476004))
def laws_FnPlans.j2 : Nat → List (S49) → List (S49) → Int → Bool → List (S34) → List Int → List Int → Int → Int → Option (Bool)
 | 0, _, _, _, _, _, _, _, _, _ => none
 | k + 1, x6, x9, x11, x78, x476000, x476001, x476002, x476003, x476004 => if x78 = true then (some true) else ((impl_CostOf.f k x476000 x476001 x476002 x476003 x476004 x9).bind fun bt496 => (if bt496.2 = true then (laws_FnPlans.j3 k x6 x9 (decide (bt496.1 > x11)) x476000 x476001 x476002 x476003 x476004) else (laws_FnPlans.j3 k x6 x9 true x476000 x476001 x476002 x476003 x476004)))
def laws_FnPlans.j3 : Nat → List (S49) → List (S49) → Bool → List (S34) → List Int → List Int → Int → Int → Option (Bool)
 | 0, _, _, _, _, _, _, _, _ => none
 | k + 1, x6, x9, x91, x476000, x476001, x476002, x476003, x476004 => if x91 = true then (some false) else (laws_FnPlans.l1 k x6 x9 0 x476000 x476001 x476002 x476003 x476004)
def laws_FnPlans.l1 : Nat → List (S49) → List (S49) → Int → List (S34) → List Int → List Int → Int → Int → Option (Bool)
 | 0, _, _, _, _, _, _, _, _ => none
 | k + 1, x6, x9, x15, x476000, x476001, x476002, x476003, x476004 => if x15 < (x476000.length : Int) then ((laws_r8Count.f k x9 x15).bind fun t498 => ((laws_r8Count.f k x6 x15).bind fun t499 => (if t498 > t499 then (some false) else (laws_FnPlans.l1 k x6 x9 (wrap64 (x15 + 1)) x476000 x476001 x476002 x476003 x476004)))) else (some true)
end
def laws_FnPlans.f (k : Nat) (l0 : List Int) (l1 : List Int) : Option (Bool) := (laws_r8Long.f l0 l1).bind fun t463 => (if t463 = true then (some true) else ((spec_R8Head.f k l0).bind fun bt464 => ((spec_R8Plan.f k l1 bt464.1 bt464.2.1 bt464.2.2.1 bt464.2.2.2.1 bt464.2.2.2.2).bind fun t476 => (laws_FnPlans.l0 k t476 (([] : List Int)) 0 bt464.1 bt464.2.1 bt464.2.2.1 bt464.2.2.2.1 bt464.2.2.2.2))))
set_option maxHeartbeats 8000000 in
set_option maxRecDepth 100000 in
theorem laws_FnPlans.calls (k : Nat) (A0 : Option Addr) (c0 : Nat) (l0 : List Int) (A1 : Option Addr) (c1 : Nat) (l1 : List Int) (r : Bool) (w : World) (hr0 : Kd.C (Kd.int .u8) w A0 l0.length l0) (hc0 : l0.length ≤ c0) (hr1 : Kd.C (Kd.int .u8) w A1 l1.length l1) (hc1 : l1.length ≤ c1) (h : laws_FnPlans.f k l0 l1 = some r) :
  Calls Try.prog 5 #[.slice A0 l0.length c0, .slice A1 l1.length c1] w fun e w' => e = .returned (.bool r) ∧ Below w.heap.size w w' := by
 have hu27 := Try.underlying27
 have HR0 := Aside0.mk hr0
 have HC0 := Aside0.mk hc0
 clear hr0 hc0
 have HR1 := Aside0.mk hr1
 have HC1 := Aside0.mk hc1
 clear hr1 hc1
 have HB := Aside0.mk (Below.refl w.heap.size w)
 have H : ((laws_r8Long.f l0 l1).bind fun t463 => (if t463 = true then (some true) else ((spec_R8Head.f k l0).bind fun bt464 => ((spec_R8Plan.f k l1 bt464.1 bt464.2.1 bt464.2.2.1 bt464.2.2.2.1 bt464.2.2.2.2).bind fun t476 => (laws_FnPlans.l0 k t476 (([] : List Int)) 0 bt464.1 bt464.2.1 bt464.2.2.1 bt464.2.2.2.1 bt464.2.2.2.2))))) = some r := h
 clear h
 replace H := Option.bind_eq_some_iff.mp H
 obtain ⟨t463, A30, H⟩ := H
 replace H : (if t463 = true then (some true) else ((spec_R8Head.f k l0).bind fun bt464 => ((spec_R8Plan.f k l1 bt464.1 bt464.2.1 bt464.2.2.1 bt464.2.2.2.1 bt464.2.2.2.2).bind fun t476 => (laws_FnPlans.l0 k t476 (([] : List Int)) 0 bt464.1 bt464.2.1 bt464.2.2.1 bt464.2.2.2.1 bt464.2.2.2.2)))) = some r := H
 have A3 := Aside0.mk A30
 clear A30
 by_cases c4 : t463 = true
 ·subst c4
  have H1 : (some true) = some r := by rw [if_pos rfl] at H; exact H
  clear H
  have H := H1
  clear H1
  obtain rfl := Option.some.inj H
  go_enter Try.func5, Try.ntmps5
  go_wp2_with (first | ((with_reducible refine gate_callee (f := 9) rfl ?_); refine goesL_ (some 18) rfl rfl Try.func9 (by kernel_rfl) rfl #[.slice A0 l0.length c0, .slice A1 l1.length c1] rfl (by (try simp only [List.map_toArray, List.map_cons, List.map_nil]); first | done | rfl | (simp only [List.length_drop, List.length_take]; rfl)) ?_; (with_reducible refine (laws_r8Long.calls _ _ l0 _ _ l1 true _ ?side1 ?side2 ?side3 ?side4 A3.out).mono ?_); (case side1 => repeat (first | exact HR0.out | (with_reducible refine Kd.C_alloc ?_ _) | (with_reducible refine Kd.C_drewN ?_ _) | (with_reducible refine Kd.C_drew ?_))); (case side2 => exact HC0.out); (case side3 => repeat (first | exact HR1.out | (with_reducible refine Kd.C_alloc ?_ _) | (with_reducible refine Kd.C_drewN ?_ _) | (with_reducible refine Kd.C_drew ?_))); (case side4 => exact HC1.out); rintro e w' ⟨rfl, ⟨nd, rfl⟩⟩; refine ⟨_, rfl, ?_⟩))
  go_ret
  exact ⟨by first | rfl | (simp [errW_none, errW_some] <;> rfl) | (simp [*, errW_none, errW_some] <;> rfl) | (simp [Int.tdiv_eq_ediv_of_nonneg, *]; done), by repeat (first | (with_reducible first | exact HB.out | apply below_alloc | apply pw_below_drewN | apply below_drew1) | exact HB.out)⟩
 ·replace c4 := Bool.eq_false_iff.mpr c4
  subst c4
  have H1 : ((spec_R8Head.f k l0).bind fun bt464 => ((spec_R8Plan.f k l1 bt464.1 bt464.2.1 bt464.2.2.1 bt464.2.2.2.1 bt464.2.2.2.2).bind fun t476 => (laws_FnPlans.l0 k t476 (([] : List Int)) 0 bt464.1 bt464.2.1 bt464.2.2.1 bt464.2.2.2.1 bt464.2.2.2.2))) = some r := by rw [if_neg (show ¬ (false = true) by decide)] at H; exact H
  clear H
  have H := H1
  clear H1
  replace H := Option.bind_eq_some_iff.mp H
  obtain ⟨⟨t464, t467, t470, t473, t474⟩, A50, H⟩ := H
  replace H : ((spec_R8Plan.f k l1 t464 t467 t470 t473 t474).bind fun t476 => (laws_FnPlans.l0 k t476 (([] : List Int)) 0 t464 t467 t470 t473 t474)) = some r := H
  have A5 := Aside0.mk A50
  clear A50
  replace H := Option.bind_eq_some_iff.mp H
  obtain ⟨t476, A60, H⟩ := H
  replace H : (laws_FnPlans.l0 k t476 (([] : List Int)) 0 t464 t467 t470 t473 t474) = some r := H
  have A6 := Aside0.mk A60
  clear A60
  obtain ⟨y479, hy479⟩ : ∃ y_ : List Int, y_ = (([] : List Int)) := ⟨_, rfl⟩
  replace H : (laws_FnPlans.l0 k t476 y479 0 t464 t467 t470 t473 t474) = some r := by first | (rw [hy479]; with_reducible exact H) | (have H2_ := (Option.bind_some _ _).symm.trans H; rw [hy479]; with_reducible exact H2_) | (have H2_ := (Option.bind_some _ _).symm.trans H; with_reducible exact H2_) | with_reducible exact H | (rw [hy479]; exact H) | exact H
  have Ny479 := Aside0.mk hy479
  clear hy479
  have H' := Aside0.mk H
  clear H
  go_enter Try.func5, Try.ntmps5
  go_wp2_with (first | ((with_reducible refine gate_callee (f := 9) rfl ?_); refine goesL_ (some 18) rfl rfl Try.func9 (by kernel_rfl) rfl #[.slice A0 l0.length c0, .slice A1 l1.length c1] rfl (by (try simp only [List.map_toArray, List.map_cons, List.map_nil]); first | done | rfl | (simp only [List.length_drop, List.length_take]; rfl)) ?_; (with_reducible refine (laws_r8Long.calls _ _ l0 _ _ l1 false _ ?side1 ?side2 ?side3 ?side4 A3.out).mono ?_); (case side1 => repeat (first | exact HR0.out | (with_reducible refine Kd.C_alloc ?_ _) | (with_reducible refine Kd.C_drewN ?_ _) | (with_reducible refine Kd.C_drew ?_))); (case side2 => exact HC0.out); (case side3 => repeat (first | exact HR1.out | (with_reducible refine Kd.C_alloc ?_ _) | (with_reducible refine Kd.C_drewN ?_ _) | (with_reducible refine Kd.C_drew ?_))); (case side4 => exact HC1.out); rintro e w' ⟨rfl, ⟨nd, rfl⟩⟩; refine ⟨_, rfl, ?_⟩) | ((with_reducible refine gate_callee (f := 10) rfl ?_); refine goesL_ (some 20) rfl rfl Try.func10 (by kernel_rfl) rfl #[.slice A0 l0.length c0] rfl (by (try simp only [List.map_toArray, List.map_cons, List.map_nil]); first | done | rfl | (simp only [List.length_drop, List.length_take]; rfl)) ?_; (with_reducible refine (spec_R8Head.calls k _ _ l0 t464 t467 t470 t473 t474 _ ?side1 ?side2 A5.out).mono ?_); (case side1 => repeat (first | exact HR0.out | (with_reducible refine Kd.C_alloc ?_ _) | (with_reducible refine Kd.C_drewN ?_ _) | (with_reducible refine Kd.C_drew ?_))); (case side2 => exact HC0.out); rintro e w7 ⟨v465, v468, v471, rfl, ho0, ho1, ho2, hb⟩; refine ⟨_, rfl, ?_⟩; have n0_ := Aside0.mk (Kd.R_lower ho0 (below_size (by repeat (first | (with_reducible first | exact HB.out | apply below_alloc | apply pw_below_drewN | apply below_drew1) | exact HB.out)))); have n1_ := Aside0.mk (Kd.R_lower ho1 (below_size (by repeat (first | (with_reducible first | exact HB.out | apply below_alloc | apply pw_below_drewN | apply below_drew1) | exact HB.out)))); have n2_ := Aside0.mk (Kd.R_lower ho2 (below_size (by repeat (first | (with_reducible first | exact HB.out | apply below_alloc | apply pw_below_drewN | apply below_drew1) | exact HB.out)))); have n3_ := Aside0.mk (below_step (by repeat (first | (with_reducible first | exact HB.out | apply below_alloc | apply pw_below_drewN | apply below_drew1) | exact HB.out)) hb); clear HB; have HO466 := n0_; have HO469 := n1_; have HO472 := n2_; have HB := n3_; clear n0_ n1_ n2_ n3_; (try clear hb); (try clear hb2); (try clear hk); (try clear hi); (try clear ho0); (try clear ho1); (try clear ho2)) | ((with_reducible refine gate_dst (N := 5) rfl ?_); refine box_event ?hg (N := 5) ?hd (cs := #[.slice none 0 0, .slice none 0 0, .slice none 0 0, .int .i64 0, .int .i64 0]) (t := 27) ?hr ?_; (case hd => rfl); (case hg => rfl); (case hr => first | (go_simp; done) | (go_simp; rfl)); intro gb475 hg w8 hbox hb; have n0_ := Aside0.mk (Kd.R_below (by (with_reducible repeat (first | apply Kd.R_alloc | apply Kd.R_drewN | apply Kd.R_drew)); exact HO466.out) hb); have n1_ := Aside0.mk (Kd.R_below (by (with_reducible repeat (first | apply Kd.R_alloc | apply Kd.R_drewN | apply Kd.R_drew)); exact HO469.out) hb); have n2_ := Aside0.mk (Kd.R_below (by (with_reducible repeat (first | apply Kd.R_alloc | apply Kd.R_drewN | apply Kd.R_drew)); exact HO472.out) hb); have n3_ := Aside0.mk (below_step (by repeat (first | (with_reducible first | exact HB.out | apply below_alloc | apply pw_below_drewN | apply below_drew1) | exact HB.out)) hb); have n4_ := Aside0.mk (hbox); have n5_ := Aside0.mk ((by rw [hg]; exact (below_size (by repeat (first | (with_reducible first | exact HB.out | apply below_alloc | apply pw_below_drewN | apply below_drew1) | exact HB.out))) : w.heap.size ≤ gb475)); have n6_ := Aside0.mk ((by rw [hg]; exact (below_size (by repeat (first | (with_reducible first | exact HB.out | apply below_alloc | apply pw_below_drewN | apply below_drew1) | exact HB.out))) : w.heap.size ≤ gb475)); clear HO466; clear HO469; clear HO472; clear HB; have HO466 := n0_; have HO469 := n1_; have HO472 := n2_; have HB := n3_; have BK475 := n4_; have GW475 := n5_; have GE475 := n6_; clear n0_ n1_ n2_ n3_ n4_ n5_ n6_; clear hb hbox hg; obtain ⟨Ao9, co9, eo9⟩ := Kd.R_slice HO466.out; subst eo9; have hcz10_0 : w8.cell? ⟨gb475, 0, none⟩ = some (.slice none 0 0) := (blk_cell BK475.out 0).trans rfl; have hcz10_1 : w8.cell? ⟨gb475, 1, none⟩ = some (.slice none 0 0) := (blk_cell BK475.out 1).trans rfl; have hcz10_2 : w8.cell? ⟨gb475, 2, none⟩ = some (.slice none 0 0) := (blk_cell BK475.out 2).trans rfl; have hcz10_3 : w8.cell? ⟨gb475, 3, none⟩ = some (.int .i64 0) := (blk_cell BK475.out 3).trans rfl; have hcz10_4 : w8.cell? ⟨gb475, 4, none⟩ = some (.int .i64 0) := (blk_cell BK475.out 4).trans rfl; have hfz10_0 := blk_frozen BK475.out 0; have hfz10_1 := blk_frozen BK475.out 1; have hfz10_2 := blk_frozen BK475.out 2; have hfz10_3 := blk_frozen BK475.out 3; have hfz10_4 := blk_frozen BK475.out 4; obtain ⟨Ao11, co11, eo11⟩ := Kd.R_slice HO469.out; subst eo11; obtain ⟨Ao12, co12, eo12⟩ := Kd.R_slice HO472.out; subst eo12) | ((with_reducible refine gate_callee (f := 18) rfl ?_); refine goesL_ (some 23) rfl rfl Try.func18 (by kernel_rfl) rfl #[.slice A1 l1.length c1, .agg #[.slice Ao9 t464.length co9, .slice Ao11 t467.length co11, .slice Ao12 t470.length co12, .int .i64 t473, .int .i64 t474]] rfl (by (try simp only [List.map_toArray, List.map_cons, List.map_nil]); first | done | rfl | (simp only [List.length_drop, List.length_take]; rfl)) ?_; (with_reducible refine (spec_R8Plan.calls k _ _ l1 _ _ t464 _ _ t467 _ _ t470 t473 t474 t476 _ ?side1 ?side2 ?side3 ?side4 ?side5 ?side6 ?side7 ?side8 A6.out).mono ?_); (case side1 => exact Kd.C_below HR1.out (by repeat (first | (with_reducible first | exact HB.out | apply below_alloc | apply pw_below_drewN | apply below_drew1 | refine below_set ?_ GE475.out) | exact HB.out))); (case side2 => exact HC1.out); (case side3 => refine (Kd.R_reads' (e := 34) (base := w.heap.size) (ok := fun k_ => True) (n := t464.length) (c := co9) ?_).2.2; exact (by (with_reducible repeat (first | apply Kd.R_alloc | apply Kd.R_drewN | apply Kd.R_drew)); exact (Kd.R_mono (Kd.R_far (p := ⟨gb475, 4, none⟩) (Kd.R_far (p := ⟨gb475, 3, none⟩) (Kd.R_far (p := ⟨gb475, 2, none⟩) (Kd.R_far (p := ⟨gb475, 1, none⟩) (Kd.R_far (p := ⟨gb475, 0, none⟩) (Kd.R_types HO466.out BK475.out (by decide)) (fun _ hk => hk.2) (.slice Ao9 t464.length co9)) (fun _ hk => hk.2) (.slice Ao11 t467.length co11)) (fun _ hk => hk.2) (.slice Ao12 t470.length co12)) (fun _ hk => hk.2) (.int .i64 t473)) (fun _ hk => hk.2) (.int .i64 t474)) (fun _ h_ => h_.1)))); (case side4 => exact (Kd.R_reads' HO466.out).2.1); (case side5 => refine (Kd.R_reads' (e := 2) (base := w.heap.size) (ok := fun k_ => some k_ ≠ (.slice Ao12 t470.length co12 : Value).ownBlock) (n := t467.length) (c := co11) ?_).2.2; exact (by (with_reducible repeat (first | apply Kd.R_alloc | apply Kd.R_drewN | apply Kd.R_drew)); exact (Kd.R_mono (Kd.R_far (p := ⟨gb475, 4, none⟩) (Kd.R_far (p := ⟨gb475, 3, none⟩) (Kd.R_far (p := ⟨gb475, 2, none⟩) (Kd.R_far (p := ⟨gb475, 1, none⟩) (Kd.R_far (p := ⟨gb475, 0, none⟩) (Kd.R_types HO469.out BK475.out (by decide)) (fun _ hk => hk.2) (.slice Ao9 t464.length co9)) (fun _ hk => hk.2) (.slice Ao11 t467.length co11)) (fun _ hk => hk.2) (.slice Ao12 t470.length co12)) (fun _ hk => hk.2) (.int .i64 t473)) (fun _ hk => hk.2) (.int .i64 t474)) (fun _ h_ => h_.1)))); (case side6 => exact (Kd.R_reads' HO469.out).2.1); (case side7 => refine (Kd.R_reads' (e := 2) (base := w.heap.size) (ok := fun k_ => some k_ ≠ (.slice Ao11 t467.length co11 : Value).ownBlock) (n := t470.length) (c := co12) ?_).2.2; exact (by (with_reducible repeat (first | apply Kd.R_alloc | apply Kd.R_drewN | apply Kd.R_drew)); exact (Kd.R_mono (Kd.R_far (p := ⟨gb475, 4, none⟩) (Kd.R_far (p := ⟨gb475, 3, none⟩) (Kd.R_far (p := ⟨gb475, 2, none⟩) (Kd.R_far (p := ⟨gb475, 1, none⟩) (Kd.R_far (p := ⟨gb475, 0, none⟩) (Kd.R_types HO472.out BK475.out (by decide)) (fun _ hk => hk.2) (.slice Ao9 t464.length co9)) (fun _ hk => hk.2) (.slice Ao11 t467.length co11)) (fun _ hk => hk.2) (.slice Ao12 t470.length co12)) (fun _ hk => hk.2) (.int .i64 t473)) (fun _ hk => hk.2) (.int .i64 t474)) (fun _ h_ => h_.1)))); (case side8 => exact (Kd.R_reads' HO472.out).2.1); rintro e w13 ⟨v477, rfl, ho0, hb⟩; refine ⟨_, rfl, ?_⟩; have n0_ := Aside0.mk (Kd.R_below (by (with_reducible repeat (first | apply Kd.R_alloc | apply Kd.R_drewN | apply Kd.R_drew)); exact (Kd.R_mono (Kd.R_far (p := ⟨gb475, 4, none⟩) (Kd.R_far (p := ⟨gb475, 3, none⟩) (Kd.R_far (p := ⟨gb475, 2, none⟩) (Kd.R_far (p := ⟨gb475, 1, none⟩) (Kd.R_far (p := ⟨gb475, 0, none⟩) (Kd.R_types HO466.out BK475.out (by decide)) (fun _ hk => hk.2) (.slice Ao9 t464.length co9)) (fun _ hk => hk.2) (.slice Ao11 t467.length co11)) (fun _ hk => hk.2) (.slice Ao12 t470.length co12)) (fun _ hk => hk.2) (.int .i64 t473)) (fun _ hk => hk.2) (.int .i64 t474)) (fun _ h_ => h_.1))) hb); have n1_ := Aside0.mk (Kd.R_below (by (with_reducible repeat (first | apply Kd.R_alloc | apply Kd.R_drewN | apply Kd.R_drew)); exact (Kd.R_mono (Kd.R_far (p := ⟨gb475, 4, none⟩) (Kd.R_far (p := ⟨gb475, 3, none⟩) (Kd.R_far (p := ⟨gb475, 2, none⟩) (Kd.R_far (p := ⟨gb475, 1, none⟩) (Kd.R_far (p := ⟨gb475, 0, none⟩) (Kd.R_types HO469.out BK475.out (by decide)) (fun _ hk => hk.2) (.slice Ao9 t464.length co9)) (fun _ hk => hk.2) (.slice Ao11 t467.length co11)) (fun _ hk => hk.2) (.slice Ao12 t470.length co12)) (fun _ hk => hk.2) (.int .i64 t473)) (fun _ hk => hk.2) (.int .i64 t474)) (fun _ h_ => h_.1))) hb); have n2_ := Aside0.mk (Kd.R_below (by (with_reducible repeat (first | apply Kd.R_alloc | apply Kd.R_drewN | apply Kd.R_drew)); exact (Kd.R_mono (Kd.R_far (p := ⟨gb475, 4, none⟩) (Kd.R_far (p := ⟨gb475, 3, none⟩) (Kd.R_far (p := ⟨gb475, 2, none⟩) (Kd.R_far (p := ⟨gb475, 1, none⟩) (Kd.R_far (p := ⟨gb475, 0, none⟩) (Kd.R_types HO472.out BK475.out (by decide)) (fun _ hk => hk.2) (.slice Ao9 t464.length co9)) (fun _ hk => hk.2) (.slice Ao11 t467.length co11)) (fun _ hk => hk.2) (.slice Ao12 t470.length co12)) (fun _ hk => hk.2) (.int .i64 t473)) (fun _ hk => hk.2) (.int .i64 t474)) (fun _ h_ => h_.1))) hb); have n3_ := Aside0.mk (Kd.S_lower (Kd.S_new' (Kd.S_new' ho0 (Kd.R_lt (by (with_reducible repeat (first | apply Kd.R_alloc | apply Kd.R_drewN | apply Kd.R_drew)); exact (Kd.R_mono (Kd.R_far (p := ⟨gb475, 4, none⟩) (Kd.R_far (p := ⟨gb475, 3, none⟩) (Kd.R_far (p := ⟨gb475, 2, none⟩) (Kd.R_far (p := ⟨gb475, 1, none⟩) (Kd.R_far (p := ⟨gb475, 0, none⟩) (Kd.R_types HO469.out BK475.out (by decide)) (fun _ hk => hk.2) (.slice Ao9 t464.length co9)) (fun _ hk => hk.2) (.slice Ao11 t467.length co11)) (fun _ hk => hk.2) (.slice Ao12 t470.length co12)) (fun _ hk => hk.2) (.int .i64 t473)) (fun _ hk => hk.2) (.int .i64 t474)) (fun _ h_ => h_.1))))) (Kd.R_lt (by (with_reducible repeat (first | apply Kd.R_alloc | apply Kd.R_drewN | apply Kd.R_drew)); exact (Kd.R_mono (Kd.R_far (p := ⟨gb475, 4, none⟩) (Kd.R_far (p := ⟨gb475, 3, none⟩) (Kd.R_far (p := ⟨gb475, 2, none⟩) (Kd.R_far (p := ⟨gb475, 1, none⟩) (Kd.R_far (p := ⟨gb475, 0, none⟩) (Kd.R_types HO472.out BK475.out (by decide)) (fun _ hk => hk.2) (.slice Ao9 t464.length co9)) (fun _ hk => hk.2) (.slice Ao11 t467.length co11)) (fun _ hk => hk.2) (.slice Ao12 t470.length co12)) (fun _ hk => hk.2) (.int .i64 t473)) (fun _ hk => hk.2) (.int .i64 t474)) (fun _ h_ => h_.1))))) (below_size (by repeat (first | (with_reducible first | exact HB.out | apply below_alloc | apply pw_below_drewN | apply below_drew1 | refine below_set ?_ GE475.out) | exact HB.out)))); have n4_ := Aside0.mk (blk_below (g := gb475) (o := .cells #[.slice Ao9 t464.length co9, .slice Ao11 t467.length co11, .slice Ao12 t470.length co12, .int .i64 t473, .int .i64 t474] 27 (0, 0)) (by (with_reducible repeat (first | refine blk_drewN ?_ _ | refine blk_drew ?_ | refine blk_alloc ?_ _)); refine blk_put (cs := #[.slice Ao9 t464.length co9, .slice Ao11 t467.length co11, .slice Ao12 t470.length co12, .int .i64 t473, .int .i64 0]) ?_ 4 _ rfl; (with_reducible repeat (first | refine blk_drewN ?_ _ | refine blk_drew ?_ | refine blk_alloc ?_ _)); refine blk_put (cs := #[.slice Ao9 t464.length co9, .slice Ao11 t467.length co11, .slice Ao12 t470.length co12, .int .i64 0, .int .i64 0]) ?_ 3 _ rfl; (with_reducible repeat (first | refine blk_drewN ?_ _ | refine blk_drew ?_ | refine blk_alloc ?_ _)); refine blk_put (cs := #[.slice Ao9 t464.length co9, .slice Ao11 t467.length co11, .slice none 0 0, .int .i64 0, .int .i64 0]) ?_ 2 _ rfl; (with_reducible repeat (first | refine blk_drewN ?_ _ | refine blk_drew ?_ | refine blk_alloc ?_ _)); refine blk_put (cs := #[.slice Ao9 t464.length co9, .slice none 0 0, .slice none 0 0, .int .i64 0, .int .i64 0]) ?_ 1 _ rfl; (with_reducible repeat (first | refine blk_drewN ?_ _ | refine blk_drew ?_ | refine blk_alloc ?_ _)); refine blk_put (cs := #[.slice none 0 0, .slice none 0 0, .slice none 0 0, .int .i64 0, .int .i64 0]) ?_ 0 _ rfl; (with_reducible repeat (first | refine blk_drewN ?_ _ | refine blk_drew ?_ | refine blk_alloc ?_ _)); exact BK475.out) hb); have n5_ := Aside0.mk (below_step (by repeat (first | (with_reducible first | exact HB.out | apply below_alloc | apply pw_below_drewN | apply below_drew1 | refine below_set ?_ GE475.out) | exact HB.out)) hb); clear HO466; clear HO469; clear HO472; clear BK475; clear HB; have HO466 := n0_; have HO469 := n1_; have HO472 := n2_; have HO478 := n3_; have BK475 := n4_; have HB := n5_; clear n0_ n1_ n2_ n3_ n4_ n5_; (try clear hb); (try clear hb2); (try clear hk); (try clear hi); (try clear ho0)) | ((with_reducible refine gate_dst (N := 24) rfl ?_); refine Kd.R_lit (Kd.int .i64) _ 2 ?hg (N := 24) ?hd (xs := ([] : List Int)) (inner := []) (ok := fun _ => True) (okp := fun _ => True) ?hr ?hp (fun _ hk => hk) trivial (Below.refl _ _) (Nat.le_refl _) (by simp) ?_; (case hd => rfl); (case hg => rfl); (case hr => first | (go_simp; done) | (go_simp; rfl)); (case hp => exact (Reps.none _ _)); intro v480 w14 ho15 hb hg_ hnew_; clear hg_ hnew_; (first | rw [← Ny479.out] at ho15 | (simp only [Int.reduceToNat] at ho15; rw [← Ny479.out] at ho15)); have n0_ := Aside0.mk (Kd.R_below (by (with_reducible repeat (first | apply Kd.R_alloc | apply Kd.R_drewN | apply Kd.R_drew)); exact HO466.out) hb); have n1_ := Aside0.mk (Kd.R_elder' (by (with_reducible repeat (first | apply Kd.R_alloc | apply Kd.R_drewN | apply Kd.R_drew)); exact HO469.out) (Kd.R_base ho15) hb); have n2_ := Aside0.mk (Kd.R_elder' (by (with_reducible repeat (first | apply Kd.R_alloc | apply Kd.R_drewN | apply Kd.R_drew)); exact HO472.out) (Kd.R_base ho15) hb); have n3_ := Aside0.mk (Kd.S_elder' (by (with_reducible repeat (first | apply Kd.S_alloc | apply Kd.S_drewN | apply Kd.S_drew)); exact HO478.out) (Kd.R_base ho15) hb); have n4_ := Aside0.mk (Kd.R_lower (Kd.R_new' (Kd.R_new' ho15 (Kd.R_lt (by (with_reducible repeat (first | apply Kd.R_alloc | apply Kd.R_drewN | apply Kd.R_drew)); exact HO469.out))) (Kd.R_lt (by (with_reducible repeat (first | apply Kd.R_alloc | apply Kd.R_drewN | apply Kd.R_drew)); exact HO472.out))) (below_size (by repeat (first | (with_reducible first | exact HB.out | apply below_alloc | apply pw_below_drewN | apply below_drew1 | refine below_set ?_ GE475.out) | exact HB.out)))); have n5_ := Aside0.mk (blk_below (g := gb475) (o := .cells #[.slice Ao9 t464.length co9, .slice Ao11 t467.length co11, .slice Ao12 t470.length co12, .int .i64 t473, .int .i64 t474] 27 (0, 0)) (by (with_reducible repeat (first | refine blk_drewN ?_ _ | refine blk_drew ?_ | refine blk_alloc ?_ _)); exact BK475.out) hb); have n6_ := Aside0.mk (below_step (by repeat (first | (with_reducible first | exact HB.out | apply below_alloc | apply pw_below_drewN | apply below_drew1 | refine below_set ?_ GE475.out) | exact HB.out)) hb); clear HO466; clear HO469; clear HO472; clear HO478; clear BK475; clear HB; have HO466 := n0_; have HO469 := n1_; have HO472 := n2_; have HO478 := n3_; have HO481 := n4_; have BK475 := n5_; have HB := n6_; clear n0_ n1_ n2_ n3_ n4_ n5_ n6_; clear hb ho15))
  go_loopg [7, 8] k (fun kq v7 v8 w' => ∃ (x7_1 : List Int) (x8_1 : Int), v8 = .int .i64 x8_1 ∧ Aside0 (laws_FnPlans.l0 kq t476 x7_1 x8_1 t464 t467 t470 t473 t474 = some r) ∧ Aside0 (kq ≤ k) ∧ Aside0 (Kd.S k49 49 w' w.heap.size (fun k_ => some k_ ≠ (v7 : Value).ownBlock ∧ some k_ ≠ ((.slice Ao11 t467.length co11) : Value).ownBlock ∧ some k_ ≠ ((.slice Ao12 t470.length co12) : Value).ownBlock) v477 t476) ∧ Aside0 (Kd.R (Kd.int .i64) 2 w' w.heap.size (fun k_ => some k_ ≠ ((.slice Ao11 t467.length co11) : Value).ownBlock ∧ some k_ ≠ ((.slice Ao12 t470.length co12) : Value).ownBlock) v7 x7_1) ∧ Aside0 (Kd.R k34 34 w' w.heap.size (fun _ => True) (.slice Ao9 t464.length co9) t464) ∧ Aside0 (Kd.R (Kd.int .i64) 2 w' w.heap.size (fun k_ => some k_ ≠ (v7 : Value).ownBlock ∧ some k_ ≠ ((.slice Ao12 t470.length co12) : Value).ownBlock) (.slice Ao11 t467.length co11) t467) ∧ Aside0 (Kd.R (Kd.int .i64) 2 w' w.heap.size (fun k_ => some k_ ≠ (v7 : Value).ownBlock ∧ some k_ ≠ ((.slice Ao11 t467.length co11) : Value).ownBlock) (.slice Ao12 t470.length co12) t470) ∧ Aside0 (w'.heap[gb475]? = some (.cells #[(.slice Ao9 t464.length co9), (.slice Ao11 t467.length co11), (.slice Ao12 t470.length co12), .int .i64 t473, .int .i64 t474] 27 (0, 0))) ∧ Aside0 (Below w.heap.size w w'))
  case atStart => exact ⟨(y479), (0), (by first | rfl | (simp; done) | (simp [*]; done) | (simp [Int.tdiv_eq_ediv_of_nonneg, *]; done)), H', ⟨Nat.le_refl _⟩, ⟨by (with_reducible repeat (first | apply Kd.S_alloc | apply Kd.S_drewN | apply Kd.S_drew)); exact Kd.S_mono HO478.out (fun _ hk => ⟨hk.2, ⟨hk.1.1.2, hk.1.2⟩⟩)⟩, ⟨by (with_reducible repeat (first | apply Kd.R_alloc | apply Kd.R_drewN | apply Kd.R_drew)); exact Kd.R_mono HO481.out (fun _ hk => ⟨hk.1.2, hk.2⟩)⟩, ⟨by (with_reducible repeat (first | apply Kd.R_alloc | apply Kd.R_drewN | apply Kd.R_drew)); exact HO466.out⟩, ⟨by (with_reducible repeat (first | apply Kd.R_alloc | apply Kd.R_drewN | apply Kd.R_drew)); exact Kd.R_mono HO469.out (fun _ hk => ⟨hk.2, hk.1⟩)⟩, ⟨by (with_reducible repeat (first | apply Kd.R_alloc | apply Kd.R_drewN | apply Kd.R_drew)); exact Kd.R_mono HO472.out (fun _ hk => ⟨hk.2, hk.1⟩)⟩, ⟨by (with_reducible repeat (first | refine blk_drewN ?_ _ | refine blk_drew ?_ | refine blk_alloc ?_ _)); exact BK475.out⟩, ⟨by repeat (first | (with_reducible first | exact HB.out | apply below_alloc | apply pw_below_drewN | apply below_drew1 | refine below_set ?_ GE475.out) | exact HB.out)⟩⟩
  case round =>
   clear H'
   try clear c1
   try clear p2
   try clear c4
   try clear c5
   try clear c9
   try clear c10
   try clear hcz10_0
   try clear hcz10_1
   try clear hcz10_2
   try clear hcz10_3
   try clear hcz10_4
   try clear hfz10_0
   try clear hfz10_1
   try clear hfz10_2
   try clear hfz10_3
   try clear hfz10_4
   obtain ⟨x7_1, x8_1, rfl, HA, HK1, HO_6, HO_7, HO_476000, HO_476001, HO_476002, BK475, HB⟩ := hrel
   cases gk with
   | zero => exact absurd HA.out (by simp [laws_FnPlans.l0])
   | succ k1 =>
    have H := HA.out
    clear HA
    simp only [laws_FnPlans.l0] at H
    by_cases c16 : x8_1 < (t476.length : Int)
    ·rw [if_pos c16] at H
     have c16b0 : decide (x8_1 < (t476.length : Int)) = true := decide_eq_true c16
     clear c16
     by_cases c17 : 0 ≤ x8_1
     ·rw [if_pos c17] at H
      have c17b0 : decide (0 ≤ x8_1) = true := decide_eq_true c17
      clear c17
      by_cases c18 : x7_1.length < 17592186044416
      ·rw [if_pos c18] at H
       have LMc18 := Aside0.mk c18
       clear c18
       obtain ⟨y483, hy483⟩ : ∃ y_ : List Int, y_ = (x7_1 ++ [(rd_T49 t476 x8_1).f0]) := ⟨_, rfl⟩
       replace H : (laws_FnPlans.l0 k1 t476 y483 (wrap64 (x8_1 + 1)) t464 t467 t470 t473 t474) = some r := by first | (rw [hy483]; with_reducible exact H) | (have H2_ := (Option.bind_some _ _).symm.trans H; rw [hy483]; with_reducible exact H2_) | (have H2_ := (Option.bind_some _ _).symm.trans H; with_reducible exact H2_) | with_reducible exact H | (rw [hy483]; exact H) | exact H
       have Ny483 := Aside0.mk hy483
       clear hy483
       have H' := Aside0.mk H
       clear H
       obtain ⟨Ao19, co19, eo19⟩ := Kd.S_slice HO_6.out
       subst eo19
       have p482 : 0 ≤ (x8_1 : Int) := of_decide_eq_true (by first | (with_reducible assumption) | assumption)
       have q482 : x8_1 < (t476.length : Int) := of_decide_eq_true (by first | (with_reducible assumption) | assumption)
       obtain ⟨ad482, A482_1, c482_1, e482, hx482_0, hx482_1, hl482_1, hi482_1⟩ := at_T49 (Kd.S_reads' HO_6.out).2.2 x8_1 p482 q482
       cases e482
       obtain ⟨ce482, hce482, hMe482, hcc482⟩ := Kd.S_get HO_6.out z49 x8_1 p482 (by first | exact q482 | exact of_decide_eq_true (by first | (with_reducible assumption) | assumption) | (have e_ := (Kd.S_reads' HO_6.out).1; omega))
       obtain ⟨ve482_1, rfl, ge482_1⟩ := k49_openM hMe482
       have hv482_1 := hcc482 1 _ rfl
       rw [add_field _ _ 1 (by omega)] at hv482_1
       replace hv482_1 := Option.some.inj (hv482_1.symm.trans hx482_1)
       rw [hv482_1] at ge482_1
       have HL482_1 := Aside0.mk (show Kd.R (Kd.int .i64) 2 _ _ _ _ ((rd_T49 t476 x8_1).f1) from ge482_1)
       clear hv482_1 ge482_1
       clear hcc482 hce482
       have HR482_1 := Aside0.mk hi482_1
       have HC482_1 := Aside0.mk hl482_1
       clear hi482_1 hl482_1
       replace p482 := eq_true p482
       replace q482 := eq_true q482
       go_wp2_with (first | ((with_reducible refine gate_builtin (b := .append) (xs := #[.tmp 31, .tmp 37]) rfl ?_); at_builtin; refine Kd.R_append (Kd.int .i64) (w0 := w) w.heap.size rfl (.tmp 31) (.tmp 37) 25 2 (.int .i64 0) 8 rfl Try.underlying25 info2 rfl (by decide) (by omega) u7 x7_1 ((rd_T49 t476 x8_1).f0) [.int .i64 ((rd_T49 t476 x8_1).f0)] (fun k_ => some k_ ≠ (.slice Ao11 t467.length co11 : Value).ownBlock ∧ some k_ ≠ (.slice Ao12 t470.length co12 : Value).ownBlock) (fun _ => False) rfl rfl ?aP (fun _ hk => hk.elim) ?aF ?aO ?aB ?aS ?aL ?_; (case aP => exact rfl); (case aB => exact (by repeat (first | (with_reducible first | exact HB.out | apply below_alloc | apply pw_below_drewN | apply below_drew1 | refine below_set ?_ GE475.out) | exact HB.out))); (case aF => exact (fun k_ hk => ⟨Kd.fresh' (Kd.R_lt (by (with_reducible repeat (first | apply Kd.R_alloc | apply Kd.R_drewN | apply Kd.R_drew)); exact HO_476001.out)) k_ hk, Kd.fresh' (Kd.R_lt (by (with_reducible repeat (first | apply Kd.R_alloc | apply Kd.R_drewN | apply Kd.R_drew)); exact HO_476002.out)) k_ hk⟩)); (case aO => exact (by (with_reducible repeat (first | apply Kd.R_alloc | apply Kd.R_drewN | apply Kd.R_drew)); exact HO_7.out)); (case aS => exact (below_size (by repeat (first | (with_reducible first | exact HB.out | apply below_alloc | apply pw_below_drewN | apply below_drew1 | refine below_set ?_ GE475.out) | exact HB.out)))); (case aL => have := LMc18.out; omega); intro v484 w20 ho hb hg hat; rw [← Ny483.out] at ho; have n0_ := Aside0.mk (Kd.S_after (ok := (fun k_ => some k_ ≠ (.slice Ao11 t467.length co11 : Value).ownBlock ∧ some k_ ≠ (.slice Ao12 t470.length co12 : Value).ownBlock)) (by (with_reducible repeat (first | apply Kd.S_alloc | apply Kd.S_drewN | apply Kd.S_drew)); exact Kd.S_mono HO_6.out (fun _ hk => ⟨⟨hk.2.1, hk.2.2⟩, hk.1⟩)) hg hat); have n1_ := Aside0.mk (Kd.R_over' (by (with_reducible repeat (first | apply Kd.R_alloc | apply Kd.R_drewN | apply Kd.R_drew)); exact HO_476000.out) (Kd.R_typed (by (with_reducible repeat (first | apply Kd.R_alloc | apply Kd.R_drewN | apply Kd.R_drew)); exact HO_7.out)) (by decide) hg); have n2_ := Aside0.mk (Kd.R_after (ok := (fun k_ => some k_ ≠ (.slice Ao12 t470.length co12 : Value).ownBlock)) (by (with_reducible repeat (first | apply Kd.R_alloc | apply Kd.R_drewN | apply Kd.R_drew)); exact Kd.R_mono HO_476001.out (fun _ hk => ⟨hk.2, hk.1⟩)) hg hat); have n3_ := Aside0.mk (Kd.R_after (ok := (fun k_ => some k_ ≠ (.slice Ao11 t467.length co11 : Value).ownBlock)) (by (with_reducible repeat (first | apply Kd.R_alloc | apply Kd.R_drewN | apply Kd.R_drew)); exact Kd.R_mono HO_476002.out (fun _ hk => ⟨hk.2, hk.1⟩)) hg hat); have n4_ := Aside0.mk (blk_grown (g := gb475) (o := .cells #[.slice Ao9 t464.length co9, .slice Ao11 t467.length co11, .slice Ao12 t470.length co12, .int .i64 t473, .int .i64 t474] 27 (0, 0)) (by (with_reducible repeat (first | refine blk_drewN ?_ _ | refine blk_drew ?_ | refine blk_alloc ?_ _)); exact BK475.out) hg (Kd.R_ne HO_7.out BK475.out (by decide))); have n5_ := Aside0.mk (Kd.R_after (ok := (fun k_ => some k_ ≠ (.slice (some ad482) t476.length co19 : Value).ownBlock ∧ some k_ ≠ (.slice Ao11 t467.length co11 : Value).ownBlock ∧ some k_ ≠ (.slice Ao12 t470.length co12 : Value).ownBlock)) (by (with_reducible repeat (first | apply Kd.R_alloc | apply Kd.R_drewN | apply Kd.R_drew)); exact Kd.R_mono HL482_1.out (fun _ hk => ⟨⟨hk.2, ⟨hk.1.2.1, hk.1.2.2⟩⟩, hk.1.1⟩)) hg hat); have n6_ := Aside0.mk (hb); have n7_ := Aside0.mk (ho); clear HO_6; clear HO_476000; clear HO_476001; clear HO_476002; clear BK475; clear HL482_1; clear HB; clear HO_7; have HO_6 := n0_; have HO_476000 := n1_; have HO_476001 := n2_; have HO_476002 := n3_; have BK475 := n4_; have HL482_1 := n5_; have HB := n6_; have HO485 := n7_; clear n0_ n1_ n2_ n3_ n4_ n5_ n6_ n7_; clear ho hb hg hat))
       go_roundg k1
       case measure => have := HK1.out; omega
       case rel => exact ⟨(y483), (wrap64 (x8_1 + 1)), (by first | rfl | (simp; done) | (simp [*]; done) | (simp [Int.tdiv_eq_ediv_of_nonneg, *]; done)), H', ⟨by have := HK1.out; omega⟩, ⟨by (with_reducible repeat (first | apply Kd.S_alloc | apply Kd.S_drewN | apply Kd.S_drew)); exact Kd.S_mono HO_6.out (fun _ hk => ⟨hk.2, ⟨hk.1.1, hk.1.2⟩⟩)⟩, ⟨by (with_reducible repeat (first | apply Kd.R_alloc | apply Kd.R_drewN | apply Kd.R_drew)); exact HO485.out⟩, ⟨by (with_reducible repeat (first | apply Kd.R_alloc | apply Kd.R_drewN | apply Kd.R_drew)); exact HO_476000.out⟩, ⟨by (with_reducible repeat (first | apply Kd.R_alloc | apply Kd.R_drewN | apply Kd.R_drew)); exact Kd.R_mono HO_476001.out (fun _ hk => ⟨hk.2, hk.1⟩)⟩, ⟨by (with_reducible repeat (first | apply Kd.R_alloc | apply Kd.R_drewN | apply Kd.R_drew)); exact Kd.R_mono HO_476002.out (fun _ hk => ⟨hk.2, hk.1⟩)⟩, ⟨by (with_reducible repeat (first | refine blk_drewN ?_ _ | refine blk_drew ?_ | refine blk_alloc ?_ _)); exact BK475.out⟩, ⟨by repeat (first | (with_reducible first | exact HB.out | apply below_alloc | apply pw_below_drewN | apply below_drew1 | refine below_set ?_ GE475.out) | exact HB.out)⟩⟩
      ·rw [if_neg c18] at H
       exact absurd H (by simp)
     ·rw [if_neg c17] at H
      exact absurd H (by simp)
    ·rw [if_neg c16] at H
     have c16b0 : decide (x8_1 < (t476.length : Int)) = false := decide_eq_false c16
     clear c16
     replace H := Option.bind_eq_some_iff.mp H
     obtain ⟨⟨t486, t489⟩, A210, H⟩ := H
     replace H : ((impl_CostOf.f k1 t464 t467 t470 t473 t474 t476).bind fun bt490 => (if bt490.2 = true then (if t489 = true then ((impl_IsEnough.f k1 t464 t467 t470 t473 t474 t486).bind fun t492 => (if t492 = true then ((impl_IsEnough.f k1 t464 t467 t470 t473 t474 t476).bind fun t493 => (if t493 = true then (laws_FnPlans.j1 k1 t476 t486 t489 bt490.1 (!t489) t464 t467 t470 t473 t474) else (laws_FnPlans.j1 k1 t476 t486 t489 bt490.1 false t464 t467 t470 t473 t474))) else (laws_FnPlans.j1 k1 t476 t486 t489 bt490.1 true t464 t467 t470 t473 t474))) else ((impl_IsEnough.f k1 t464 t467 t470 t473 t474 t476).bind fun t494 => (if t494 = true then (laws_FnPlans.j1 k1 t476 t486 t489 bt490.1 (!t489) t464 t467 t470 t473 t474) else (laws_FnPlans.j1 k1 t476 t486 t489 bt490.1 false t464 t467 t470 t473 t474)))) else (laws_FnPlans.j1 k1 t476 t486 t489 bt490.1 true t464 t467 t470 t473 t474))) = some r := H
     have A21 := Aside0.mk A210
     clear A210
     replace H := Option.bind_eq_some_iff.mp H
     obtain ⟨⟨t490, t491⟩, A220, H⟩ := H
     replace H : (if t491 = true then (if t489 = true then ((impl_IsEnough.f k1 t464 t467 t470 t473 t474 t486).bind fun t492 => (if t492 = true then ((impl_IsEnough.f k1 t464 t467 t470 t473 t474 t476).bind fun t493 => (if t493 = true then (laws_FnPlans.j1 k1 t476 t486 t489 t490 (!t489) t464 t467 t470 t473 t474) else (laws_FnPlans.j1 k1 t476 t486 t489 t490 false t464 t467 t470 t473 t474))) else (laws_FnPlans.j1 k1 t476 t486 t489 t490 true t464 t467 t470 t473 t474))) else ((impl_IsEnough.f k1 t464 t467 t470 t473 t474 t476).bind fun t494 => (if t494 = true then (laws_FnPlans.j1 k1 t476 t486 t489 t490 (!t489) t464 t467 t470 t473 t474) else (laws_FnPlans.j1 k1 t476 t486 t489 t490 false t464 t467 t470 t473 t474)))) else (laws_FnPlans.j1 k1 t476 t486 t489 t490 true t464 t467 t470 t473 t474)) = some r := H
     have A22 := Aside0.mk A220
     clear A220
     have HC23 := Aside0.mk H
     clear H
     obtain ⟨Ao24, co24, eo24⟩ := Kd.S_slice HO_6.out
     subst eo24
     have hcz25_0 : wr.cell? ⟨gb475, 0, none⟩ = some (.slice Ao9 t464.length co9) := (blk_cell BK475.out 0).trans rfl
     have hcz25_1 : wr.cell? ⟨gb475, 1, none⟩ = some (.slice Ao11 t467.length co11) := (blk_cell BK475.out 1).trans rfl
     have hcz25_2 : wr.cell? ⟨gb475, 2, none⟩ = some (.slice Ao12 t470.length co12) := (blk_cell BK475.out 2).trans rfl
     have hcz25_3 : wr.cell? ⟨gb475, 3, none⟩ = some (.int .i64 t473) := (blk_cell BK475.out 3).trans rfl
     have hcz25_4 : wr.cell? ⟨gb475, 4, none⟩ = some (.int .i64 t474) := (blk_cell BK475.out 4).trans rfl
     have hfz25_0 := blk_frozen BK475.out 0
     have hfz25_1 := blk_frozen BK475.out 1
     have hfz25_2 := blk_frozen BK475.out 2
     have hfz25_3 := blk_frozen BK475.out 3
     have hfz25_4 := blk_frozen BK475.out 4
     obtain ⟨Ao26, co26, eo26⟩ := Kd.R_slice HO_7.out
     subst eo26
     go_upto_region 12 with (first | ((with_reducible refine gate_callee (f := 20) rfl ?_); refine goesL_ (some 42) rfl rfl Try.func20 (by kernel_rfl) rfl #[.agg #[.slice Ao9 t464.length co9, .slice Ao11 t467.length co11, .slice Ao12 t470.length co12, .int .i64 t473, .int .i64 t474], .slice Ao26 x7_1.length co26] rfl (by (try simp only [List.map_toArray, List.map_cons, List.map_nil]); first | done | rfl | (simp only [List.length_drop, List.length_take]; rfl)) ?_; (with_reducible refine (impl_PlanFor.calls k1 _ _ t464 _ _ t467 _ _ t470 t473 t474 _ _ x7_1 t486 t489 _ ?side1 ?side2 ?side3 ?side4 ?side5 ?side6 ?side7 ?side8 A21.out).mono ?_); (case side1 => repeat (first | exact (Kd.R_reads' HO_476000.out).2.2 | (with_reducible refine Kd.C_alloc ?_ _) | (with_reducible refine Kd.C_drewN ?_ _) | (with_reducible refine Kd.C_drew ?_))); (case side2 => exact (Kd.R_reads' HO_476000.out).2.1); (case side3 => repeat (first | exact (Kd.R_reads' HO_476001.out).2.2 | (with_reducible refine Kd.C_alloc ?_ _) | (with_reducible refine Kd.C_drewN ?_ _) | (with_reducible refine Kd.C_drew ?_))); (case side4 => exact (Kd.R_reads' HO_476001.out).2.1); (case side5 => repeat (first | exact (Kd.R_reads' HO_476002.out).2.2 | (with_reducible refine Kd.C_alloc ?_ _) | (with_reducible refine Kd.C_drewN ?_ _) | (with_reducible refine Kd.C_drew ?_))); (case side6 => exact (Kd.R_reads' HO_476002.out).2.1); (case side7 => repeat (first | exact (Kd.R_reads' HO_7.out).2.2 | (with_reducible refine Kd.C_alloc ?_ _) | (with_reducible refine Kd.C_drewN ?_ _) | (with_reducible refine Kd.C_drew ?_))); (case side8 => exact (Kd.R_reads' HO_7.out).2.1); rintro e w27 ⟨v487, rfl, ho0, hb⟩; refine ⟨_, rfl, ?_⟩; have n0_ := Aside0.mk (Kd.S_elder' (by (with_reducible repeat (first | apply Kd.S_alloc | apply Kd.S_drewN | apply Kd.S_drew)); exact HO_6.out) (Kd.S_base ho0) hb); have n1_ := Aside0.mk (Kd.R_below (by (with_reducible repeat (first | apply Kd.R_alloc | apply Kd.R_drewN | apply Kd.R_drew)); exact HO_7.out) hb); have n2_ := Aside0.mk (Kd.R_below (by (with_reducible repeat (first | apply Kd.R_alloc | apply Kd.R_drewN | apply Kd.R_drew)); exact HO_476000.out) hb); have n3_ := Aside0.mk (Kd.R_below (by (with_reducible repeat (first | apply Kd.R_alloc | apply Kd.R_drewN | apply Kd.R_drew)); exact HO_476001.out) hb); have n4_ := Aside0.mk (Kd.R_below (by (with_reducible repeat (first | apply Kd.R_alloc | apply Kd.R_drewN | apply Kd.R_drew)); exact HO_476002.out) hb); have n5_ := Aside0.mk (Kd.S_lower (Kd.S_new' (Kd.S_new' (Kd.S_new' (Kd.S_new' ho0 (Kd.S_lt (by (with_reducible repeat (first | apply Kd.S_alloc | apply Kd.S_drewN | apply Kd.S_drew)); exact HO_6.out))) (Kd.R_lt (by (with_reducible repeat (first | apply Kd.R_alloc | apply Kd.R_drewN | apply Kd.R_drew)); exact HO_7.out))) (Kd.R_lt (by (with_reducible repeat (first | apply Kd.R_alloc | apply Kd.R_drewN | apply Kd.R_drew)); exact HO_476001.out))) (Kd.R_lt (by (with_reducible repeat (first | apply Kd.R_alloc | apply Kd.R_drewN | apply Kd.R_drew)); exact HO_476002.out))) (below_size (by repeat (first | (with_reducible first | exact HB.out | apply below_alloc | apply pw_below_drewN | apply below_drew1 | refine below_set ?_ GE475.out) | exact HB.out)))); have n6_ := Aside0.mk (blk_below (g := gb475) (o := .cells #[.slice Ao9 t464.length co9, .slice Ao11 t467.length co11, .slice Ao12 t470.length co12, .int .i64 t473, .int .i64 t474] 27 (0, 0)) (by (with_reducible repeat (first | refine blk_drewN ?_ _ | refine blk_drew ?_ | refine blk_alloc ?_ _)); exact BK475.out) hb); have n7_ := Aside0.mk (below_step (by repeat (first | (with_reducible first | exact HB.out | apply below_alloc | apply pw_below_drewN | apply below_drew1 | refine below_set ?_ GE475.out) | exact HB.out)) hb); clear HO_6; clear HO_7; clear HO_476000; clear HO_476001; clear HO_476002; clear BK475; clear HB; have HO_6 := n0_; have HO_7 := n1_; have HO_476000 := n2_; have HO_476001 := n3_; have HO_476002 := n4_; have HO488 := n5_; have BK475 := n6_; have HB := n7_; clear n0_ n1_ n2_ n3_ n4_ n5_ n6_ n7_; (try clear hb); (try clear hb2); (try clear hk); (try clear hi); (try clear ho0); have hcz28_0 : w27.cell? ⟨gb475, 0, none⟩ = some (.slice Ao9 t464.length co9) := (blk_cell BK475.out 0).trans rfl; have hcz28_1 : w27.cell? ⟨gb475, 1, none⟩ = some (.slice Ao11 t467.length co11) := (blk_cell BK475.out 1).trans rfl; have hcz28_2 : w27.cell? ⟨gb475, 2, none⟩ = some (.slice Ao12 t470.length co12) := (blk_cell BK475.out 2).trans rfl; have hcz28_3 : w27.cell? ⟨gb475, 3, none⟩ = some (.int .i64 t473) := (blk_cell BK475.out 3).trans rfl; have hcz28_4 : w27.cell? ⟨gb475, 4, none⟩ = some (.int .i64 t474) := (blk_cell BK475.out 4).trans rfl; have hfz28_0 := blk_frozen BK475.out 0; have hfz28_1 := blk_frozen BK475.out 1; have hfz28_2 := blk_frozen BK475.out 2; have hfz28_3 := blk_frozen BK475.out 3; have hfz28_4 := blk_frozen BK475.out 4) | ((with_reducible refine gate_callee (f := 19) rfl ?_); refine goesL_ (some 48) rfl rfl Try.func19 (by kernel_rfl) rfl #[.agg #[.slice Ao9 t464.length co9, .slice Ao11 t467.length co11, .slice Ao12 t470.length co12, .int .i64 t473, .int .i64 t474], .slice Ao24 t476.length co24] rfl (by (try simp only [List.map_toArray, List.map_cons, List.map_nil]); first | done | rfl | (simp only [List.length_drop, List.length_take]; rfl)) ?_; (with_reducible refine (impl_CostOf.calls k1 _ _ t464 _ _ t467 _ _ t470 t473 t474 _ _ t476 t490 t491 _ ?side1 ?side2 ?side3 ?side4 ?side5 ?side6 ?side7 ?side8 A22.out).mono ?_); (case side1 => repeat (first | exact (Kd.R_reads' HO_476000.out).2.2 | (with_reducible refine Kd.C_alloc ?_ _) | (with_reducible refine Kd.C_drewN ?_ _) | (with_reducible refine Kd.C_drew ?_))); (case side2 => exact (Kd.R_reads' HO_476000.out).2.1); (case side3 => repeat (first | exact (Kd.R_reads' HO_476001.out).2.2 | (with_reducible refine Kd.C_alloc ?_ _) | (with_reducible refine Kd.C_drewN ?_ _) | (with_reducible refine Kd.C_drew ?_))); (case side4 => exact (Kd.R_reads' HO_476001.out).2.1); (case side5 => repeat (first | exact (Kd.R_reads' HO_476002.out).2.2 | (with_reducible refine Kd.C_alloc ?_ _) | (with_reducible refine Kd.C_drewN ?_ _) | (with_reducible refine Kd.C_drew ?_))); (case side6 => exact (Kd.R_reads' HO_476002.out).2.1); (case side7 => repeat (first | exact (Kd.S_reads' HO_6.out).2.2 | (with_reducible refine Kd.C_alloc ?_ _) | (with_reducible refine Kd.C_drewN ?_ _) | (with_reducible refine Kd.C_drew ?_))); (case side8 => exact (Kd.S_reads' HO_6.out).2.1); rintro e w29 ⟨rfl, hb⟩; refine ⟨_, rfl, ?_⟩; have n0_ := Aside0.mk (Kd.S_below (by (with_reducible repeat (first | apply Kd.S_alloc | apply Kd.S_drewN | apply Kd.S_drew)); exact HO_6.out) hb); have n1_ := Aside0.mk (Kd.R_below (by (with_reducible repeat (first | apply Kd.R_alloc | apply Kd.R_drewN | apply Kd.R_drew)); exact HO_7.out) hb); have n2_ := Aside0.mk (Kd.R_below (by (with_reducible repeat (first | apply Kd.R_alloc | apply Kd.R_drewN | apply Kd.R_drew)); exact HO_476000.out) hb); have n3_ := Aside0.mk (Kd.R_below (by (with_reducible repeat (first | apply Kd.R_alloc | apply Kd.R_drewN | apply Kd.R_drew)); exact HO_476001.out) hb); have n4_ := Aside0.mk (Kd.R_below (by (with_reducible repeat (first | apply Kd.R_alloc | apply Kd.R_drewN | apply Kd.R_drew)); exact HO_476002.out) hb); have n5_ := Aside0.mk (Kd.S_below (by (with_reducible repeat (first | apply Kd.S_alloc | apply Kd.S_drewN | apply Kd.S_drew)); exact HO488.out) hb); have n6_ := Aside0.mk (blk_below (g := gb475) (o := .cells #[.slice Ao9 t464.length co9, .slice Ao11 t467.length co11, .slice Ao12 t470.length co12, .int .i64 t473, .int .i64 t474] 27 (0, 0)) (by (with_reducible repeat (first | refine blk_drewN ?_ _ | refine blk_drew ?_ | refine blk_alloc ?_ _)); exact BK475.out) hb); have n7_ := Aside0.mk (below_step (by repeat (first | (with_reducible first | exact HB.out | apply below_alloc | apply pw_below_drewN | apply below_drew1 | refine below_set ?_ GE475.out) | exact HB.out)) hb); clear HO_6; clear HO_7; clear HO_476000; clear HO_476001; clear HO_476002; clear HO488; clear BK475; clear HB; have HO_6 := n0_; have HO_7 := n1_; have HO_476000 := n2_; have HO_476001 := n3_; have HO_476002 := n4_; have HO488 := n5_; have BK475 := n6_; have HB := n7_; clear n0_ n1_ n2_ n3_ n4_ n5_ n6_ n7_; (try clear hb); (try clear hb2); (try clear hk); (try clear hi)))
     (try simp only [Act.put, List.setIfInBounds_toArray, List.set_cons_zero, List.set_cons_succ])
     go_cut [70] (fun v70 wc => ∃ (kq : Nat) (x70_22 : Bool), v70 = .bool x70_22 ∧ Aside0 (laws_FnPlans.j1 kq t476 t486 t489 t490 x70_22 t464 t467 t470 t473 t474 = some r) ∧ Aside0 (kq ≤ k1) ∧ Aside0 (Kd.S k49 49 wc w.heap.size (fun k_ => some k_ ≠ (v487 : Value).ownBlock ∧ some k_ ≠ ((.slice Ao11 t467.length co11) : Value).ownBlock ∧ some k_ ≠ ((.slice Ao12 t470.length co12) : Value).ownBlock) (.slice Ao24 t476.length co24) t476) ∧ Aside0 (Kd.S k49 49 wc w.heap.size (fun k_ => some k_ ≠ ((.slice Ao24 t476.length co24) : Value).ownBlock ∧ some k_ ≠ ((.slice Ao11 t467.length co11) : Value).ownBlock ∧ some k_ ≠ ((.slice Ao12 t470.length co12) : Value).ownBlock) v487 t486) ∧ Aside0 (Kd.R k34 34 wc w.heap.size (fun _ => True) (.slice Ao9 t464.length co9) t464) ∧ Aside0 (Kd.R (Kd.int .i64) 2 wc w.heap.size (fun k_ => some k_ ≠ ((.slice Ao12 t470.length co12) : Value).ownBlock) (.slice Ao11 t467.length co11) t467) ∧ Aside0 (Kd.R (Kd.int .i64) 2 wc w.heap.size (fun k_ => some k_ ≠ ((.slice Ao11 t467.length co11) : Value).ownBlock) (.slice Ao12 t470.length co12) t470) ∧ Aside0 (wc.heap[gb475]? = some (.cells #[(.slice Ao9 t464.length co9), (.slice Ao11 t467.length co11), (.slice Ao12 t470.length co12), .int .i64 t473, .int .i64 t474] 27 (0, 0))) ∧ Aside0 (Below w.heap.size w wc))
     case first =>
      have H := HC23.out
      clear HC23
      by_cases c30 : t491 = true
      ·subst c30
       have H1 : (if t489 = true then ((impl_IsEnough.f k1 t464 t467 t470 t473 t474 t486).bind fun t492 => (if t492 = true then ((impl_IsEnough.f k1 t464 t467 t470 t473 t474 t476).bind fun t493 => (if t493 = true then (laws_FnPlans.j1 k1 t476 t486 t489 t490 (!t489) t464 t467 t470 t473 t474) else (laws_FnPlans.j1 k1 t476 t486 t489 t490 false t464 t467 t470 t473 t474))) else (laws_FnPlans.j1 k1 t476 t486 t489 t490 true t464 t467 t470 t473 t474))) else ((impl_IsEnough.f k1 t464 t467 t470 t473 t474 t476).bind fun t494 => (if t494 = true then (laws_FnPlans.j1 k1 t476 t486 t489 t490 (!t489) t464 t467 t470 t473 t474) else (laws_FnPlans.j1 k1 t476 t486 t489 t490 false t464 t467 t470 t473 t474)))) = some r := by rw [if_pos rfl] at H; exact H
       clear H
       have H := H1
       clear H1
       by_cases c31 : t489 = true
       ·subst c31
        have H1 : ((impl_IsEnough.f k1 t464 t467 t470 t473 t474 t486).bind fun t492 => (if t492 = true then ((impl_IsEnough.f k1 t464 t467 t470 t473 t474 t476).bind fun t493 => (if t493 = true then (laws_FnPlans.j1 k1 t476 t486 true t490 (!true) t464 t467 t470 t473 t474) else (laws_FnPlans.j1 k1 t476 t486 true t490 false t464 t467 t470 t473 t474))) else (laws_FnPlans.j1 k1 t476 t486 true t490 true t464 t467 t470 t473 t474))) = some r := by rw [if_pos rfl] at H; exact H
        clear H
        have H := H1
        clear H1
        replace H := Option.bind_eq_some_iff.mp H
        obtain ⟨t492, A320, H⟩ := H
        replace H : (if t492 = true then ((impl_IsEnough.f k1 t464 t467 t470 t473 t474 t476).bind fun t493 => (if t493 = true then (laws_FnPlans.j1 k1 t476 t486 true t490 (!true) t464 t467 t470 t473 t474) else (laws_FnPlans.j1 k1 t476 t486 true t490 false t464 t467 t470 t473 t474))) else (laws_FnPlans.j1 k1 t476 t486 true t490 true t464 t467 t470 t473 t474)) = some r := H
        have A32 := Aside0.mk A320
        clear A320
        by_cases c33 : t492 = true
        ·subst c33
         have H1 : ((impl_IsEnough.f k1 t464 t467 t470 t473 t474 t476).bind fun t493 => (if t493 = true then (laws_FnPlans.j1 k1 t476 t486 true t490 (!true) t464 t467 t470 t473 t474) else (laws_FnPlans.j1 k1 t476 t486 true t490 false t464 t467 t470 t473 t474))) = some r := by rw [if_pos rfl] at H; exact H
         clear H
         have H := H1
         clear H1
         replace H := Option.bind_eq_some_iff.mp H
         obtain ⟨t493, A340, H⟩ := H
         replace H : (if t493 = true then (laws_FnPlans.j1 k1 t476 t486 true t490 (!true) t464 t467 t470 t473 t474) else (laws_FnPlans.j1 k1 t476 t486 true t490 false t464 t467 t470 t473 t474)) = some r := H
         have A34 := Aside0.mk A340
         clear A340
         by_cases c35 : t493 = true
         ·subst c35
          have H1 : (laws_FnPlans.j1 k1 t476 t486 true t490 (!true) t464 t467 t470 t473 t474) = some r := by rw [if_pos rfl] at H; exact H
          clear H
          have H := H1
          clear H1
          have H' := Aside0.mk H
          clear H
          have hcz36_0 : w29.cell? ⟨gb475, 0, none⟩ = some (.slice Ao9 t464.length co9) := (blk_cell BK475.out 0).trans rfl
          have hcz36_1 : w29.cell? ⟨gb475, 1, none⟩ = some (.slice Ao11 t467.length co11) := (blk_cell BK475.out 1).trans rfl
          have hcz36_2 : w29.cell? ⟨gb475, 2, none⟩ = some (.slice Ao12 t470.length co12) := (blk_cell BK475.out 2).trans rfl
          have hcz36_3 : w29.cell? ⟨gb475, 3, none⟩ = some (.int .i64 t473) := (blk_cell BK475.out 3).trans rfl
          have hcz36_4 : w29.cell? ⟨gb475, 4, none⟩ = some (.int .i64 t474) := (blk_cell BK475.out 4).trans rfl
          have hfz36_0 := blk_frozen BK475.out 0
          have hfz36_1 := blk_frozen BK475.out 1
          have hfz36_2 := blk_frozen BK475.out 2
          have hfz36_3 := blk_frozen BK475.out 3
          have hfz36_4 := blk_frozen BK475.out 4
          obtain ⟨Ao37, co37, eo37⟩ := Kd.S_slice HO488.out
          subst eo37
          go_wp2_with (first | (go_at_call 21; (with_reducible refine (impl_IsEnough.calls k1 _ _ t464 _ _ t467 _ _ t470 t473 t474 _ _ t486 true _ ?side1 ?side2 ?side3 ?side4 ?side5 ?side6 ?side7 ?side8 A32.out).mono ?_); (case side1 => repeat (first | exact (Kd.R_reads' HO_476000.out).2.2 | (with_reducible refine Kd.C_alloc ?_ _) | (with_reducible refine Kd.C_drewN ?_ _) | (with_reducible refine Kd.C_drew ?_))); (case side2 => exact (Kd.R_reads' HO_476000.out).2.1); (case side3 => repeat (first | exact (Kd.R_reads' HO_476001.out).2.2 | (with_reducible refine Kd.C_alloc ?_ _) | (with_reducible refine Kd.C_drewN ?_ _) | (with_reducible refine Kd.C_drew ?_))); (case side4 => exact (Kd.R_reads' HO_476001.out).2.1); (case side5 => repeat (first | exact (Kd.R_reads' HO_476002.out).2.2 | (with_reducible refine Kd.C_alloc ?_ _) | (with_reducible refine Kd.C_drewN ?_ _) | (with_reducible refine Kd.C_drew ?_))); (case side6 => exact (Kd.R_reads' HO_476002.out).2.1); (case side7 => repeat (first | exact (Kd.S_reads' HO488.out).2.2 | (with_reducible refine Kd.C_alloc ?_ _) | (with_reducible refine Kd.C_drewN ?_ _) | (with_reducible refine Kd.C_drew ?_))); (case side8 => exact (Kd.S_reads' HO488.out).2.1); rintro e w38 ⟨rfl, hb⟩; have n0_ := Aside0.mk (Kd.S_below (by (with_reducible repeat (first | apply Kd.S_alloc | apply Kd.S_drewN | apply Kd.S_drew)); exact HO_6.out) hb); have n1_ := Aside0.mk (Kd.R_below (by (with_reducible repeat (first | apply Kd.R_alloc | apply Kd.R_drewN | apply Kd.R_drew)); exact HO_7.out) hb); have n2_ := Aside0.mk (Kd.R_below (by (with_reducible repeat (first | apply Kd.R_alloc | apply Kd.R_drewN | apply Kd.R_drew)); exact HO_476000.out) hb); have n3_ := Aside0.mk (Kd.R_below (by (with_reducible repeat (first | apply Kd.R_alloc | apply Kd.R_drewN | apply Kd.R_drew)); exact HO_476001.out) hb); have n4_ := Aside0.mk (Kd.R_below (by (with_reducible repeat (first | apply Kd.R_alloc | apply Kd.R_drewN | apply Kd.R_drew)); exact HO_476002.out) hb); have n5_ := Aside0.mk (Kd.S_below (by (with_reducible repeat (first | apply Kd.S_alloc | apply Kd.S_drewN | apply Kd.S_drew)); exact HO488.out) hb); have n6_ := Aside0.mk (blk_below (g := gb475) (o := .cells #[.slice Ao9 t464.length co9, .slice Ao11 t467.length co11, .slice Ao12 t470.length co12, .int .i64 t473, .int .i64 t474] 27 (0, 0)) (by (with_reducible repeat (first | refine blk_drewN ?_ _ | refine blk_drew ?_ | refine blk_alloc ?_ _)); exact BK475.out) hb); have n7_ := Aside0.mk (below_step (by repeat (first | (with_reducible first | exact HB.out | apply below_alloc | apply pw_below_drewN | apply below_drew1 | refine below_set ?_ GE475.out) | exact HB.out)) hb); clear HO_6; clear HO_7; clear HO_476000; clear HO_476001; clear HO_476002; clear HO488; clear BK475; clear HB; have HO_6 := n0_; have HO_7 := n1_; have HO_476000 := n2_; have HO_476001 := n3_; have HO_476002 := n4_; have HO488 := n5_; have BK475 := n6_; have HB := n7_; clear n0_ n1_ n2_ n3_ n4_ n5_ n6_ n7_; (try clear hb); (try clear hb2); (try clear hk); (try clear hi); have hcz39_0 : w38.cell? ⟨gb475, 0, none⟩ = some (.slice Ao9 t464.length co9) := (blk_cell BK475.out 0).trans rfl; have hcz39_1 : w38.cell? ⟨gb475, 1, none⟩ = some (.slice Ao11 t467.length co11) := (blk_cell BK475.out 1).trans rfl; have hcz39_2 : w38.cell? ⟨gb475, 2, none⟩ = some (.slice Ao12 t470.length co12) := (blk_cell BK475.out 2).trans rfl; have hcz39_3 : w38.cell? ⟨gb475, 3, none⟩ = some (.int .i64 t473) := (blk_cell BK475.out 3).trans rfl; have hcz39_4 : w38.cell? ⟨gb475, 4, none⟩ = some (.int .i64 t474) := (blk_cell BK475.out 4).trans rfl; have hfz39_0 := blk_frozen BK475.out 0; have hfz39_1 := blk_frozen BK475.out 1; have hfz39_2 := blk_frozen BK475.out 2; have hfz39_3 := blk_frozen BK475.out 3; have hfz39_4 := blk_frozen BK475.out 4) | (go_at_call 21; (with_reducible refine (impl_IsEnough.calls k1 _ _ t464 _ _ t467 _ _ t470 t473 t474 _ _ t476 true _ ?side1 ?side2 ?side3 ?side4 ?side5 ?side6 ?side7 ?side8 A34.out).mono ?_); (case side1 => repeat (first | exact (Kd.R_reads' HO_476000.out).2.2 | (with_reducible refine Kd.C_alloc ?_ _) | (with_reducible refine Kd.C_drewN ?_ _) | (with_reducible refine Kd.C_drew ?_))); (case side2 => exact (Kd.R_reads' HO_476000.out).2.1); (case side3 => repeat (first | exact (Kd.R_reads' HO_476001.out).2.2 | (with_reducible refine Kd.C_alloc ?_ _) | (with_reducible refine Kd.C_drewN ?_ _) | (with_reducible refine Kd.C_drew ?_))); (case side4 => exact (Kd.R_reads' HO_476001.out).2.1); (case side5 => repeat (first | exact (Kd.R_reads' HO_476002.out).2.2 | (with_reducible refine Kd.C_alloc ?_ _) | (with_reducible refine Kd.C_drewN ?_ _) | (with_reducible refine Kd.C_drew ?_))); (case side6 => exact (Kd.R_reads' HO_476002.out).2.1); (case side7 => repeat (first | exact (Kd.S_reads' HO_6.out).2.2 | (with_reducible refine Kd.C_alloc ?_ _) | (with_reducible refine Kd.C_drewN ?_ _) | (with_reducible refine Kd.C_drew ?_))); (case side8 => exact (Kd.S_reads' HO_6.out).2.1); rintro e w40 ⟨rfl, hb⟩; have n0_ := Aside0.mk (Kd.S_below (by (with_reducible repeat (first | apply Kd.S_alloc | apply Kd.S_drewN | apply Kd.S_drew)); exact HO_6.out) hb); have n1_ := Aside0.mk (Kd.R_below (by (with_reducible repeat (first | apply Kd.R_alloc | apply Kd.R_drewN | apply Kd.R_drew)); exact HO_7.out) hb); have n2_ := Aside0.mk (Kd.R_below (by (with_reducible repeat (first | apply Kd.R_alloc | apply Kd.R_drewN | apply Kd.R_drew)); exact HO_476000.out) hb); have n3_ := Aside0.mk (Kd.R_below (by (with_reducible repeat (first | apply Kd.R_alloc | apply Kd.R_drewN | apply Kd.R_drew)); exact HO_476001.out) hb); have n4_ := Aside0.mk (Kd.R_below (by (with_reducible repeat (first | apply Kd.R_alloc | apply Kd.R_drewN | apply Kd.R_drew)); exact HO_476002.out) hb); have n5_ := Aside0.mk (Kd.S_below (by (with_reducible repeat (first | apply Kd.S_alloc | apply Kd.S_drewN | apply Kd.S_drew)); exact HO488.out) hb); have n6_ := Aside0.mk (blk_below (g := gb475) (o := .cells #[.slice Ao9 t464.length co9, .slice Ao11 t467.length co11, .slice Ao12 t470.length co12, .int .i64 t473, .int .i64 t474] 27 (0, 0)) (by (with_reducible repeat (first | refine blk_drewN ?_ _ | refine blk_drew ?_ | refine blk_alloc ?_ _)); exact BK475.out) hb); have n7_ := Aside0.mk (below_step (by repeat (first | (with_reducible first | exact HB.out | apply below_alloc | apply pw_below_drewN | apply below_drew1 | refine below_set ?_ GE475.out) | exact HB.out)) hb); clear HO_6; clear HO_7; clear HO_476000; clear HO_476001; clear HO_476002; clear HO488; clear BK475; clear HB; have HO_6 := n0_; have HO_7 := n1_; have HO_476000 := n2_; have HO_476001 := n3_; have HO_476002 := n4_; have HO488 := n5_; have BK475 := n6_; have HB := n7_; clear n0_ n1_ n2_ n3_ n4_ n5_ n6_ n7_; (try clear hb); (try clear hb2); (try clear hk); (try clear hi)))
          go_meet
          case rel => exact ⟨_, (!true), (by first | rfl | (simp; done) | (simp [*]; done) | (simp [Int.tdiv_eq_ediv_of_nonneg, *]; done)), H', ⟨by have := HK1.out; first | omega | exact Nat.le_refl _⟩, ⟨by (with_reducible repeat (first | apply Kd.S_alloc | apply Kd.S_drewN | apply Kd.S_drew)); exact Kd.S_mono HO_6.out (fun _ hk => ⟨hk.2, ⟨hk.1.2.1, hk.1.2.2⟩⟩)⟩, ⟨by (with_reducible repeat (first | apply Kd.S_alloc | apply Kd.S_drewN | apply Kd.S_drew)); exact Kd.S_mono HO488.out (fun _ hk => ⟨hk.1.1.1.2, ⟨hk.1.2, hk.2⟩⟩)⟩, ⟨by (with_reducible repeat (first | apply Kd.R_alloc | apply Kd.R_drewN | apply Kd.R_drew)); exact HO_476000.out⟩, ⟨by (with_reducible repeat (first | apply Kd.R_alloc | apply Kd.R_drewN | apply Kd.R_drew)); exact Kd.R_mono HO_476001.out (fun _ hk => hk.2)⟩, ⟨by (with_reducible repeat (first | apply Kd.R_alloc | apply Kd.R_drewN | apply Kd.R_drew)); exact Kd.R_mono HO_476002.out (fun _ hk => hk.2)⟩, ⟨by (with_reducible repeat (first | refine blk_drewN ?_ _ | refine blk_drew ?_ | refine blk_alloc ?_ _)); exact BK475.out⟩, ⟨by repeat (first | (with_reducible first | exact HB.out | apply below_alloc | apply pw_below_drewN | apply below_drew1 | refine below_set ?_ GE475.out) | exact HB.out)⟩⟩
         ·replace c35 := Bool.eq_false_iff.mpr c35
          subst c35
          have H1 : (laws_FnPlans.j1 k1 t476 t486 true t490 false t464 t467 t470 t473 t474) = some r := by rw [if_neg (show ¬ (false = true) by decide)] at H; exact H
          clear H
          have H := H1
          clear H1
          have H' := Aside0.mk H
          clear H
          have hcz41_0 : w29.cell? ⟨gb475, 0, none⟩ = some (.slice Ao9 t464.length co9) := (blk_cell BK475.out 0).trans rfl
          have hcz41_1 : w29.cell? ⟨gb475, 1, none⟩ = some (.slice Ao11 t467.length co11) := (blk_cell BK475.out 1).trans rfl
          have hcz41_2 : w29.cell? ⟨gb475, 2, none⟩ = some (.slice Ao12 t470.length co12) := (blk_cell BK475.out 2).trans rfl
          have hcz41_3 : w29.cell? ⟨gb475, 3, none⟩ = some (.int .i64 t473) := (blk_cell BK475.out 3).trans rfl
          have hcz41_4 : w29.cell? ⟨gb475, 4, none⟩ = some (.int .i64 t474) := (blk_cell BK475.out 4).trans rfl
          have hfz41_0 := blk_frozen BK475.out 0
          have hfz41_1 := blk_frozen BK475.out 1
          have hfz41_2 := blk_frozen BK475.out 2
          have hfz41_3 := blk_frozen BK475.out 3
          have hfz41_4 := blk_frozen BK475.out 4
          obtain ⟨Ao42, co42, eo42⟩ := Kd.S_slice HO488.out
          subst eo42
          go_wp2_with (first | (go_at_call 21; (with_reducible refine (impl_IsEnough.calls k1 _ _ t464 _ _ t467 _ _ t470 t473 t474 _ _ t486 true _ ?side1 ?side2 ?side3 ?side4 ?side5 ?side6 ?side7 ?side8 A32.out).mono ?_); (case side1 => repeat (first | exact (Kd.R_reads' HO_476000.out).2.2 | (with_reducible refine Kd.C_alloc ?_ _) | (with_reducible refine Kd.C_drewN ?_ _) | (with_reducible refine Kd.C_drew ?_))); (case side2 => exact (Kd.R_reads' HO_476000.out).2.1); (case side3 => repeat (first | exact (Kd.R_reads' HO_476001.out).2.2 | (with_reducible refine Kd.C_alloc ?_ _) | (with_reducible refine Kd.C_drewN ?_ _) | (with_reducible refine Kd.C_drew ?_))); (case side4 => exact (Kd.R_reads' HO_476001.out).2.1); (case side5 => repeat (first | exact (Kd.R_reads' HO_476002.out).2.2 | (with_reducible refine Kd.C_alloc ?_ _) | (with_reducible refine Kd.C_drewN ?_ _) | (with_reducible refine Kd.C_drew ?_))); (case side6 => exact (Kd.R_reads' HO_476002.out).2.1); (case side7 => repeat (first | exact (Kd.S_reads' HO488.out).2.2 | (with_reducible refine Kd.C_alloc ?_ _) | (with_reducible refine Kd.C_drewN ?_ _) | (with_reducible refine Kd.C_drew ?_))); (case side8 => exact (Kd.S_reads' HO488.out).2.1); rintro e w43 ⟨rfl, hb⟩; have n0_ := Aside0.mk (Kd.S_below (by (with_reducible repeat (first | apply Kd.S_alloc | apply Kd.S_drewN | apply Kd.S_drew)); exact HO_6.out) hb); have n1_ := Aside0.mk (Kd.R_below (by (with_reducible repeat (first | apply Kd.R_alloc | apply Kd.R_drewN | apply Kd.R_drew)); exact HO_7.out) hb); have n2_ := Aside0.mk (Kd.R_below (by (with_reducible repeat (first | apply Kd.R_alloc | apply Kd.R_drewN | apply Kd.R_drew)); exact HO_476000.out) hb); have n3_ := Aside0.mk (Kd.R_below (by (with_reducible repeat (first | apply Kd.R_alloc | apply Kd.R_drewN | apply Kd.R_drew)); exact HO_476001.out) hb); have n4_ := Aside0.mk (Kd.R_below (by (with_reducible repeat (first | apply Kd.R_alloc | apply Kd.R_drewN | apply Kd.R_drew)); exact HO_476002.out) hb); have n5_ := Aside0.mk (Kd.S_below (by (with_reducible repeat (first | apply Kd.S_alloc | apply Kd.S_drewN | apply Kd.S_drew)); exact HO488.out) hb); have n6_ := Aside0.mk (blk_below (g := gb475) (o := .cells #[.slice Ao9 t464.length co9, .slice Ao11 t467.length co11, .slice Ao12 t470.length co12, .int .i64 t473, .int .i64 t474] 27 (0, 0)) (by (with_reducible repeat (first | refine blk_drewN ?_ _ | refine blk_drew ?_ | refine blk_alloc ?_ _)); exact BK475.out) hb); have n7_ := Aside0.mk (below_step (by repeat (first | (with_reducible first | exact HB.out | apply below_alloc | apply pw_below_drewN | apply below_drew1 | refine below_set ?_ GE475.out) | exact HB.out)) hb); clear HO_6; clear HO_7; clear HO_476000; clear HO_476001; clear HO_476002; clear HO488; clear BK475; clear HB; have HO_6 := n0_; have HO_7 := n1_; have HO_476000 := n2_; have HO_476001 := n3_; have HO_476002 := n4_; have HO488 := n5_; have BK475 := n6_; have HB := n7_; clear n0_ n1_ n2_ n3_ n4_ n5_ n6_ n7_; (try clear hb); (try clear hb2); (try clear hk); (try clear hi); have hcz44_0 : w43.cell? ⟨gb475, 0, none⟩ = some (.slice Ao9 t464.length co9) := (blk_cell BK475.out 0).trans rfl; have hcz44_1 : w43.cell? ⟨gb475, 1, none⟩ = some (.slice Ao11 t467.length co11) := (blk_cell BK475.out 1).trans rfl; have hcz44_2 : w43.cell? ⟨gb475, 2, none⟩ = some (.slice Ao12 t470.length co12) := (blk_cell BK475.out 2).trans rfl; have hcz44_3 : w43.cell? ⟨gb475, 3, none⟩ = some (.int .i64 t473) := (blk_cell BK475.out 3).trans rfl; have hcz44_4 : w43.cell? ⟨gb475, 4, none⟩ = some (.int .i64 t474) := (blk_cell BK475.out 4).trans rfl; have hfz44_0 := blk_frozen BK475.out 0; have hfz44_1 := blk_frozen BK475.out 1; have hfz44_2 := blk_frozen BK475.out 2; have hfz44_3 := blk_frozen BK475.out 3; have hfz44_4 := blk_frozen BK475.out 4) | (go_at_call 21; (with_reducible refine (impl_IsEnough.calls k1 _ _ t464 _ _ t467 _ _ t470 t473 t474 _ _ t476 false _ ?side1 ?side2 ?side3 ?side4 ?side5 ?side6 ?side7 ?side8 A34.out).mono ?_); (case side1 => repeat (first | exact (Kd.R_reads' HO_476000.out).2.2 | (with_reducible refine Kd.C_alloc ?_ _) | (with_reducible refine Kd.C_drewN ?_ _) | (with_reducible refine Kd.C_drew ?_))); (case side2 => exact (Kd.R_reads' HO_476000.out).2.1); (case side3 => repeat (first | exact (Kd.R_reads' HO_476001.out).2.2 | (with_reducible refine Kd.C_alloc ?_ _) | (with_reducible refine Kd.C_drewN ?_ _) | (with_reducible refine Kd.C_drew ?_))); (case side4 => exact (Kd.R_reads' HO_476001.out).2.1); (case side5 => repeat (first | exact (Kd.R_reads' HO_476002.out).2.2 | (with_reducible refine Kd.C_alloc ?_ _) | (with_reducible refine Kd.C_drewN ?_ _) | (with_reducible refine Kd.C_drew ?_))); (case side6 => exact (Kd.R_reads' HO_476002.out).2.1); (case side7 => repeat (first | exact (Kd.S_reads' HO_6.out).2.2 | (with_reducible refine Kd.C_alloc ?_ _) | (with_reducible refine Kd.C_drewN ?_ _) | (with_reducible refine Kd.C_drew ?_))); (case side8 => exact (Kd.S_reads' HO_6.out).2.1); rintro e w45 ⟨rfl, hb⟩; have n0_ := Aside0.mk (Kd.S_below (by (with_reducible repeat (first | apply Kd.S_alloc | apply Kd.S_drewN | apply Kd.S_drew)); exact HO_6.out) hb); have n1_ := Aside0.mk (Kd.R_below (by (with_reducible repeat (first | apply Kd.R_alloc | apply Kd.R_drewN | apply Kd.R_drew)); exact HO_7.out) hb); have n2_ := Aside0.mk (Kd.R_below (by (with_reducible repeat (first | apply Kd.R_alloc | apply Kd.R_drewN | apply Kd.R_drew)); exact HO_476000.out) hb); have n3_ := Aside0.mk (Kd.R_below (by (with_reducible repeat (first | apply Kd.R_alloc | apply Kd.R_drewN | apply Kd.R_drew)); exact HO_476001.out) hb); have n4_ := Aside0.mk (Kd.R_below (by (with_reducible repeat (first | apply Kd.R_alloc | apply Kd.R_drewN | apply Kd.R_drew)); exact HO_476002.out) hb); have n5_ := Aside0.mk (Kd.S_below (by (with_reducible repeat (first | apply Kd.S_alloc | apply Kd.S_drewN | apply Kd.S_drew)); exact HO488.out) hb); have n6_ := Aside0.mk (blk_below (g := gb475) (o := .cells #[.slice Ao9 t464.length co9, .slice Ao11 t467.length co11, .slice Ao12 t470.length co12, .int .i64 t473, .int .i64 t474] 27 (0, 0)) (by (with_reducible repeat (first | refine blk_drewN ?_ _ | refine blk_drew ?_ | refine blk_alloc ?_ _)); exact BK475.out) hb); have n7_ := Aside0.mk (below_step (by repeat (first | (with_reducible first | exact HB.out | apply below_alloc | apply pw_below_drewN | apply below_drew1 | refine below_set ?_ GE475.out) | exact HB.out)) hb); clear HO_6; clear HO_7; clear HO_476000; clear HO_476001; clear HO_476002; clear HO488; clear BK475; clear HB; have HO_6 := n0_; have HO_7 := n1_; have HO_476000 := n2_; have HO_476001 := n3_; have HO_476002 := n4_; have HO488 := n5_; have BK475 := n6_; have HB := n7_; clear n0_ n1_ n2_ n3_ n4_ n5_ n6_ n7_; (try clear hb); (try clear hb2); (try clear hk); (try clear hi)))
          go_meet
          case rel => exact ⟨_, (false), (by first | rfl | (simp; done) | (simp [*]; done) | (simp [Int.tdiv_eq_ediv_of_nonneg, *]; done)), H', ⟨by have := HK1.out; first | omega | exact Nat.le_refl _⟩, ⟨by (with_reducible repeat (first | apply Kd.S_alloc | apply Kd.S_drewN | apply Kd.S_drew)); exact Kd.S_mono HO_6.out (fun _ hk => ⟨hk.2, ⟨hk.1.2.1, hk.1.2.2⟩⟩)⟩, ⟨by (with_reducible repeat (first | apply Kd.S_alloc | apply Kd.S_drewN | apply Kd.S_drew)); exact Kd.S_mono HO488.out (fun _ hk => ⟨hk.1.1.1.2, ⟨hk.1.2, hk.2⟩⟩)⟩, ⟨by (with_reducible repeat (first | apply Kd.R_alloc | apply Kd.R_drewN | apply Kd.R_drew)); exact HO_476000.out⟩, ⟨by (with_reducible repeat (first | apply Kd.R_alloc | apply Kd.R_drewN | apply Kd.R_drew)); exact Kd.R_mono HO_476001.out (fun _ hk => hk.2)⟩, ⟨by (with_reducible repeat (first | apply Kd.R_alloc | apply Kd.R_drewN | apply Kd.R_drew)); exact Kd.R_mono HO_476002.out (fun _ hk => hk.2)⟩, ⟨by (with_reducible repeat (first | refine blk_drewN ?_ _ | refine blk_drew ?_ | refine blk_alloc ?_ _)); exact BK475.out⟩, ⟨by repeat (first | (with_reducible first | exact HB.out | apply below_alloc | apply pw_below_drewN | apply below_drew1 | refine below_set ?_ GE475.out) | exact HB.out)⟩⟩
        ·replace c33 := Bool.eq_false_iff.mpr c33
         subst c33
         have H1 : (laws_FnPlans.j1 k1 t476 t486 true t490 true t464 t467 t470 t473 t474) = some r := by rw [if_neg (show ¬ (false = true) by decide)] at H; exact H
         clear H
         have H := H1
         clear H1
         have H' := Aside0.mk H
         clear H
         have hcz46_0 : w29.cell? ⟨gb475, 0, none⟩ = some (.slice Ao9 t464.length co9) := (blk_cell BK475.out 0).trans rfl
         have hcz46_1 : w29.cell? ⟨gb475, 1, none⟩ = some (.slice Ao11 t467.length co11) := (blk_cell BK475.out 1).trans rfl
         have hcz46_2 : w29.cell? ⟨gb475, 2, none⟩ = some (.slice Ao12 t470.length co12) := (blk_cell BK475.out 2).trans rfl
         have hcz46_3 : w29.cell? ⟨gb475, 3, none⟩ = some (.int .i64 t473) := (blk_cell BK475.out 3).trans rfl
         have hcz46_4 : w29.cell? ⟨gb475, 4, none⟩ = some (.int .i64 t474) := (blk_cell BK475.out 4).trans rfl
         have hfz46_0 := blk_frozen BK475.out 0
         have hfz46_1 := blk_frozen BK475.out 1
         have hfz46_2 := blk_frozen BK475.out 2
         have hfz46_3 := blk_frozen BK475.out 3
         have hfz46_4 := blk_frozen BK475.out 4
         obtain ⟨Ao47, co47, eo47⟩ := Kd.S_slice HO488.out
         subst eo47
         go_wp2_with (first | (go_at_call 21; (with_reducible refine (impl_IsEnough.calls k1 _ _ t464 _ _ t467 _ _ t470 t473 t474 _ _ t486 false _ ?side1 ?side2 ?side3 ?side4 ?side5 ?side6 ?side7 ?side8 A32.out).mono ?_); (case side1 => repeat (first | exact (Kd.R_reads' HO_476000.out).2.2 | (with_reducible refine Kd.C_alloc ?_ _) | (with_reducible refine Kd.C_drewN ?_ _) | (with_reducible refine Kd.C_drew ?_))); (case side2 => exact (Kd.R_reads' HO_476000.out).2.1); (case side3 => repeat (first | exact (Kd.R_reads' HO_476001.out).2.2 | (with_reducible refine Kd.C_alloc ?_ _) | (with_reducible refine Kd.C_drewN ?_ _) | (with_reducible refine Kd.C_drew ?_))); (case side4 => exact (Kd.R_reads' HO_476001.out).2.1); (case side5 => repeat (first | exact (Kd.R_reads' HO_476002.out).2.2 | (with_reducible refine Kd.C_alloc ?_ _) | (with_reducible refine Kd.C_drewN ?_ _) | (with_reducible refine Kd.C_drew ?_))); (case side6 => exact (Kd.R_reads' HO_476002.out).2.1); (case side7 => repeat (first | exact (Kd.S_reads' HO488.out).2.2 | (with_reducible refine Kd.C_alloc ?_ _) | (with_reducible refine Kd.C_drewN ?_ _) | (with_reducible refine Kd.C_drew ?_))); (case side8 => exact (Kd.S_reads' HO488.out).2.1); rintro e w48 ⟨rfl, hb⟩; have n0_ := Aside0.mk (Kd.S_below (by (with_reducible repeat (first | apply Kd.S_alloc | apply Kd.S_drewN | apply Kd.S_drew)); exact HO_6.out) hb); have n1_ := Aside0.mk (Kd.R_below (by (with_reducible repeat (first | apply Kd.R_alloc | apply Kd.R_drewN | apply Kd.R_drew)); exact HO_7.out) hb); have n2_ := Aside0.mk (Kd.R_below (by (with_reducible repeat (first | apply Kd.R_alloc | apply Kd.R_drewN | apply Kd.R_drew)); exact HO_476000.out) hb); have n3_ := Aside0.mk (Kd.R_below (by (with_reducible repeat (first | apply Kd.R_alloc | apply Kd.R_drewN | apply Kd.R_drew)); exact HO_476001.out) hb); have n4_ := Aside0.mk (Kd.R_below (by (with_reducible repeat (first | apply Kd.R_alloc | apply Kd.R_drewN | apply Kd.R_drew)); exact HO_476002.out) hb); have n5_ := Aside0.mk (Kd.S_below (by (with_reducible repeat (first | apply Kd.S_alloc | apply Kd.S_drewN | apply Kd.S_drew)); exact HO488.out) hb); have n6_ := Aside0.mk (blk_below (g := gb475) (o := .cells #[.slice Ao9 t464.length co9, .slice Ao11 t467.length co11, .slice Ao12 t470.length co12, .int .i64 t473, .int .i64 t474] 27 (0, 0)) (by (with_reducible repeat (first | refine blk_drewN ?_ _ | refine blk_drew ?_ | refine blk_alloc ?_ _)); exact BK475.out) hb); have n7_ := Aside0.mk (below_step (by repeat (first | (with_reducible first | exact HB.out | apply below_alloc | apply pw_below_drewN | apply below_drew1 | refine below_set ?_ GE475.out) | exact HB.out)) hb); clear HO_6; clear HO_7; clear HO_476000; clear HO_476001; clear HO_476002; clear HO488; clear BK475; clear HB; have HO_6 := n0_; have HO_7 := n1_; have HO_476000 := n2_; have HO_476001 := n3_; have HO_476002 := n4_; have HO488 := n5_; have BK475 := n6_; have HB := n7_; clear n0_ n1_ n2_ n3_ n4_ n5_ n6_ n7_; (try clear hb); (try clear hb2); (try clear hk); (try clear hi)))
         go_meet
         case rel => exact ⟨_, (true), (by first | rfl | (simp; done) | (simp [*]; done) | (simp [Int.tdiv_eq_ediv_of_nonneg, *]; done)), H', ⟨by have := HK1.out; first | omega | exact Nat.le_refl _⟩, ⟨by (with_reducible repeat (first | apply Kd.S_alloc | apply Kd.S_drewN | apply Kd.S_drew)); exact Kd.S_mono HO_6.out (fun _ hk => ⟨hk.2, ⟨hk.1.2.1, hk.1.2.2⟩⟩)⟩, ⟨by (with_reducible repeat (first | apply Kd.S_alloc | apply Kd.S_drewN | apply Kd.S_drew)); exact Kd.S_mono HO488.out (fun _ hk => ⟨hk.1.1.1.2, ⟨hk.1.2, hk.2⟩⟩)⟩, ⟨by (with_reducible repeat (first | apply Kd.R_alloc | apply Kd.R_drewN | apply Kd.R_drew)); exact HO_476000.out⟩, ⟨by (with_reducible repeat (first | apply Kd.R_alloc | apply Kd.R_drewN | apply Kd.R_drew)); exact Kd.R_mono HO_476001.out (fun _ hk => hk.2)⟩, ⟨by (with_reducible repeat (first | apply Kd.R_alloc | apply Kd.R_drewN | apply Kd.R_drew)); exact Kd.R_mono HO_476002.out (fun _ hk => hk.2)⟩, ⟨by (with_reducible repeat (first | refine blk_drewN ?_ _ | refine blk_drew ?_ | refine blk_alloc ?_ _)); exact BK475.out⟩, ⟨by repeat (first | (with_reducible first | exact HB.out | apply below_alloc | apply pw_below_drewN | apply below_drew1 | refine below_set ?_ GE475.out) | exact HB.out)⟩⟩
       ·replace c31 := Bool.eq_false_iff.mpr c31
        subst c31
        have H1 : ((impl_IsEnough.f k1 t464 t467 t470 t473 t474 t476).bind fun t494 => (if t494 = true then (laws_FnPlans.j1 k1 t476 t486 false t490 (!false) t464 t467 t470 t473 t474) else (laws_FnPlans.j1 k1 t476 t486 false t490 false t464 t467 t470 t473 t474))) = some r := by rw [if_neg (show ¬ (false = true) by decide)] at H; exact H
        clear H
        have H := H1
        clear H1
        replace H := Option.bind_eq_some_iff.mp H
        obtain ⟨t494, A490, H⟩ := H
        replace H : (if t494 = true then (laws_FnPlans.j1 k1 t476 t486 false t490 (!false) t464 t467 t470 t473 t474) else (laws_FnPlans.j1 k1 t476 t486 false t490 false t464 t467 t470 t473 t474)) = some r := H
        have A49 := Aside0.mk A490
        clear A490
        by_cases c50 : t494 = true
        ·subst c50
         have H1 : (laws_FnPlans.j1 k1 t476 t486 false t490 (!false) t464 t467 t470 t473 t474) = some r := by rw [if_pos rfl] at H; exact H
         clear H
         have H := H1
         clear H1
         have H' := Aside0.mk H
         clear H
         have hcz51_0 : w29.cell? ⟨gb475, 0, none⟩ = some (.slice Ao9 t464.length co9) := (blk_cell BK475.out 0).trans rfl
         have hcz51_1 : w29.cell? ⟨gb475, 1, none⟩ = some (.slice Ao11 t467.length co11) := (blk_cell BK475.out 1).trans rfl
         have hcz51_2 : w29.cell? ⟨gb475, 2, none⟩ = some (.slice Ao12 t470.length co12) := (blk_cell BK475.out 2).trans rfl
         have hcz51_3 : w29.cell? ⟨gb475, 3, none⟩ = some (.int .i64 t473) := (blk_cell BK475.out 3).trans rfl
         have hcz51_4 : w29.cell? ⟨gb475, 4, none⟩ = some (.int .i64 t474) := (blk_cell BK475.out 4).trans rfl
         have hfz51_0 := blk_frozen BK475.out 0
         have hfz51_1 := blk_frozen BK475.out 1
         have hfz51_2 := blk_frozen BK475.out 2
         have hfz51_3 := blk_frozen BK475.out 3
         have hfz51_4 := blk_frozen BK475.out 4
         go_wp2_with (first | (go_at_call 21; (with_reducible refine (impl_IsEnough.calls k1 _ _ t464 _ _ t467 _ _ t470 t473 t474 _ _ t476 true _ ?side1 ?side2 ?side3 ?side4 ?side5 ?side6 ?side7 ?side8 A49.out).mono ?_); (case side1 => repeat (first | exact (Kd.R_reads' HO_476000.out).2.2 | (with_reducible refine Kd.C_alloc ?_ _) | (with_reducible refine Kd.C_drewN ?_ _) | (with_reducible refine Kd.C_drew ?_))); (case side2 => exact (Kd.R_reads' HO_476000.out).2.1); (case side3 => repeat (first | exact (Kd.R_reads' HO_476001.out).2.2 | (with_reducible refine Kd.C_alloc ?_ _) | (with_reducible refine Kd.C_drewN ?_ _) | (with_reducible refine Kd.C_drew ?_))); (case side4 => exact (Kd.R_reads' HO_476001.out).2.1); (case side5 => repeat (first | exact (Kd.R_reads' HO_476002.out).2.2 | (with_reducible refine Kd.C_alloc ?_ _) | (with_reducible refine Kd.C_drewN ?_ _) | (with_reducible refine Kd.C_drew ?_))); (case side6 => exact (Kd.R_reads' HO_476002.out).2.1); (case side7 => repeat (first | exact (Kd.S_reads' HO_6.out).2.2 | (with_reducible refine Kd.C_alloc ?_ _) | (with_reducible refine Kd.C_drewN ?_ _) | (with_reducible refine Kd.C_drew ?_))); (case side8 => exact (Kd.S_reads' HO_6.out).2.1); rintro e w52 ⟨rfl, hb⟩; have n0_ := Aside0.mk (Kd.S_below (by (with_reducible repeat (first | apply Kd.S_alloc | apply Kd.S_drewN | apply Kd.S_drew)); exact HO_6.out) hb); have n1_ := Aside0.mk (Kd.R_below (by (with_reducible repeat (first | apply Kd.R_alloc | apply Kd.R_drewN | apply Kd.R_drew)); exact HO_7.out) hb); have n2_ := Aside0.mk (Kd.R_below (by (with_reducible repeat (first | apply Kd.R_alloc | apply Kd.R_drewN | apply Kd.R_drew)); exact HO_476000.out) hb); have n3_ := Aside0.mk (Kd.R_below (by (with_reducible repeat (first | apply Kd.R_alloc | apply Kd.R_drewN | apply Kd.R_drew)); exact HO_476001.out) hb); have n4_ := Aside0.mk (Kd.R_below (by (with_reducible repeat (first | apply Kd.R_alloc | apply Kd.R_drewN | apply Kd.R_drew)); exact HO_476002.out) hb); have n5_ := Aside0.mk (Kd.S_below (by (with_reducible repeat (first | apply Kd.S_alloc | apply Kd.S_drewN | apply Kd.S_drew)); exact HO488.out) hb); have n6_ := Aside0.mk (blk_below (g := gb475) (o := .cells #[.slice Ao9 t464.length co9, .slice Ao11 t467.length co11, .slice Ao12 t470.length co12, .int .i64 t473, .int .i64 t474] 27 (0, 0)) (by (with_reducible repeat (first | refine blk_drewN ?_ _ | refine blk_drew ?_ | refine blk_alloc ?_ _)); exact BK475.out) hb); have n7_ := Aside0.mk (below_step (by repeat (first | (with_reducible first | exact HB.out | apply below_alloc | apply pw_below_drewN | apply below_drew1 | refine below_set ?_ GE475.out) | exact HB.out)) hb); clear HO_6; clear HO_7; clear HO_476000; clear HO_476001; clear HO_476002; clear HO488; clear BK475; clear HB; have HO_6 := n0_; have HO_7 := n1_; have HO_476000 := n2_; have HO_476001 := n3_; have HO_476002 := n4_; have HO488 := n5_; have BK475 := n6_; have HB := n7_; clear n0_ n1_ n2_ n3_ n4_ n5_ n6_ n7_; (try clear hb); (try clear hb2); (try clear hk); (try clear hi)))
         go_meet
         case rel => exact ⟨_, (!false), (by first | rfl | (simp; done) | (simp [*]; done) | (simp [Int.tdiv_eq_ediv_of_nonneg, *]; done)), H', ⟨by have := HK1.out; first | omega | exact Nat.le_refl _⟩, ⟨by (with_reducible repeat (first | apply Kd.S_alloc | apply Kd.S_drewN | apply Kd.S_drew)); exact Kd.S_mono HO_6.out (fun _ hk => ⟨hk.2, ⟨hk.1.2.1, hk.1.2.2⟩⟩)⟩, ⟨by (with_reducible repeat (first | apply Kd.S_alloc | apply Kd.S_drewN | apply Kd.S_drew)); exact Kd.S_mono HO488.out (fun _ hk => ⟨hk.1.1.1.2, ⟨hk.1.2, hk.2⟩⟩)⟩, ⟨by (with_reducible repeat (first | apply Kd.R_alloc | apply Kd.R_drewN | apply Kd.R_drew)); exact HO_476000.out⟩, ⟨by (with_reducible repeat (first | apply Kd.R_alloc | apply Kd.R_drewN | apply Kd.R_drew)); exact Kd.R_mono HO_476001.out (fun _ hk => hk.2)⟩, ⟨by (with_reducible repeat (first | apply Kd.R_alloc | apply Kd.R_drewN | apply Kd.R_drew)); exact Kd.R_mono HO_476002.out (fun _ hk => hk.2)⟩, ⟨by (with_reducible repeat (first | refine blk_drewN ?_ _ | refine blk_drew ?_ | refine blk_alloc ?_ _)); exact BK475.out⟩, ⟨by repeat (first | (with_reducible first | exact HB.out | apply below_alloc | apply pw_below_drewN | apply below_drew1 | refine below_set ?_ GE475.out) | exact HB.out)⟩⟩
        ·replace c50 := Bool.eq_false_iff.mpr c50
         subst c50
         have H1 : (laws_FnPlans.j1 k1 t476 t486 false t490 false t464 t467 t470 t473 t474) = some r := by rw [if_neg (show ¬ (false = true) by decide)] at H; exact H
         clear H
         have H := H1
         clear H1
         have H' := Aside0.mk H
         clear H
         have hcz53_0 : w29.cell? ⟨gb475, 0, none⟩ = some (.slice Ao9 t464.length co9) := (blk_cell BK475.out 0).trans rfl
         have hcz53_1 : w29.cell? ⟨gb475, 1, none⟩ = some (.slice Ao11 t467.length co11) := (blk_cell BK475.out 1).trans rfl
         have hcz53_2 : w29.cell? ⟨gb475, 2, none⟩ = some (.slice Ao12 t470.length co12) := (blk_cell BK475.out 2).trans rfl
         have hcz53_3 : w29.cell? ⟨gb475, 3, none⟩ = some (.int .i64 t473) := (blk_cell BK475.out 3).trans rfl
         have hcz53_4 : w29.cell? ⟨gb475, 4, none⟩ = some (.int .i64 t474) := (blk_cell BK475.out 4).trans rfl
         have hfz53_0 := blk_frozen BK475.out 0
         have hfz53_1 := blk_frozen BK475.out 1
         have hfz53_2 := blk_frozen BK475.out 2
         have hfz53_3 := blk_frozen BK475.out 3
         have hfz53_4 := blk_frozen BK475.out 4
         go_wp2_with (first | (go_at_call 21; (with_reducible refine (impl_IsEnough.calls k1 _ _ t464 _ _ t467 _ _ t470 t473 t474 _ _ t476 false _ ?side1 ?side2 ?side3 ?side4 ?side5 ?side6 ?side7 ?side8 A49.out).mono ?_); (case side1 => repeat (first | exact (Kd.R_reads' HO_476000.out).2.2 | (with_reducible refine Kd.C_alloc ?_ _) | (with_reducible refine Kd.C_drewN ?_ _) | (with_reducible refine Kd.C_drew ?_))); (case side2 => exact (Kd.R_reads' HO_476000.out).2.1); (case side3 => repeat (first | exact (Kd.R_reads' HO_476001.out).2.2 | (with_reducible refine Kd.C_alloc ?_ _) | (with_reducible refine Kd.C_drewN ?_ _) | (with_reducible refine Kd.C_drew ?_))); (case side4 => exact (Kd.R_reads' HO_476001.out).2.1); (case side5 => repeat (first | exact (Kd.R_reads' HO_476002.out).2.2 | (with_reducible refine Kd.C_alloc ?_ _) | (with_reducible refine Kd.C_drewN ?_ _) | (with_reducible refine Kd.C_drew ?_))); (case side6 => exact (Kd.R_reads' HO_476002.out).2.1); (case side7 => repeat (first | exact (Kd.S_reads' HO_6.out).2.2 | (with_reducible refine Kd.C_alloc ?_ _) | (with_reducible refine Kd.C_drewN ?_ _) | (with_reducible refine Kd.C_drew ?_))); (case side8 => exact (Kd.S_reads' HO_6.out).2.1); rintro e w54 ⟨rfl, hb⟩; have n0_ := Aside0.mk (Kd.S_below (by (with_reducible repeat (first | apply Kd.S_alloc | apply Kd.S_drewN | apply Kd.S_drew)); exact HO_6.out) hb); have n1_ := Aside0.mk (Kd.R_below (by (with_reducible repeat (first | apply Kd.R_alloc | apply Kd.R_drewN | apply Kd.R_drew)); exact HO_7.out) hb); have n2_ := Aside0.mk (Kd.R_below (by (with_reducible repeat (first | apply Kd.R_alloc | apply Kd.R_drewN | apply Kd.R_drew)); exact HO_476000.out) hb); have n3_ := Aside0.mk (Kd.R_below (by (with_reducible repeat (first | apply Kd.R_alloc | apply Kd.R_drewN | apply Kd.R_drew)); exact HO_476001.out) hb); have n4_ := Aside0.mk (Kd.R_below (by (with_reducible repeat (first | apply Kd.R_alloc | apply Kd.R_drewN | apply Kd.R_drew)); exact HO_476002.out) hb); have n5_ := Aside0.mk (Kd.S_below (by (with_reducible repeat (first | apply Kd.S_alloc | apply Kd.S_drewN | apply Kd.S_drew)); exact HO488.out) hb); have n6_ := Aside0.mk (blk_below (g := gb475) (o := .cells #[.slice Ao9 t464.length co9, .slice Ao11 t467.length co11, .slice Ao12 t470.length co12, .int .i64 t473, .int .i64 t474] 27 (0, 0)) (by (with_reducible repeat (first | refine blk_drewN ?_ _ | refine blk_drew ?_ | refine blk_alloc ?_ _)); exact BK475.out) hb); have n7_ := Aside0.mk (below_step (by repeat (first | (with_reducible first | exact HB.out | apply below_alloc | apply pw_below_drewN | apply below_drew1 | refine below_set ?_ GE475.out) | exact HB.out)) hb); clear HO_6; clear HO_7; clear HO_476000; clear HO_476001; clear HO_476002; clear HO488; clear BK475; clear HB; have HO_6 := n0_; have HO_7 := n1_; have HO_476000 := n2_; have HO_476001 := n3_; have HO_476002 := n4_; have HO488 := n5_; have BK475 := n6_; have HB := n7_; clear n0_ n1_ n2_ n3_ n4_ n5_ n6_ n7_; (try clear hb); (try clear hb2); (try clear hk); (try clear hi)))
         go_meet
         case rel => exact ⟨_, (false), (by first | rfl | (simp; done) | (simp [*]; done) | (simp [Int.tdiv_eq_ediv_of_nonneg, *]; done)), H', ⟨by have := HK1.out; first | omega | exact Nat.le_refl _⟩, ⟨by (with_reducible repeat (first | apply Kd.S_alloc | apply Kd.S_drewN | apply Kd.S_drew)); exact Kd.S_mono HO_6.out (fun _ hk => ⟨hk.2, ⟨hk.1.2.1, hk.1.2.2⟩⟩)⟩, ⟨by (with_reducible repeat (first | apply Kd.S_alloc | apply Kd.S_drewN | apply Kd.S_drew)); exact Kd.S_mono HO488.out (fun _ hk => ⟨hk.1.1.1.2, ⟨hk.1.2, hk.2⟩⟩)⟩, ⟨by (with_reducible repeat (first | apply Kd.R_alloc | apply Kd.R_drewN | apply Kd.R_drew)); exact HO_476000.out⟩, ⟨by (with_reducible repeat (first | apply Kd.R_alloc | apply Kd.R_drewN | apply Kd.R_drew)); exact Kd.R_mono HO_476001.out (fun _ hk => hk.2)⟩, ⟨by (with_reducible repeat (first | apply Kd.R_alloc | apply Kd.R_drewN | apply Kd.R_drew)); exact Kd.R_mono HO_476002.out (fun _ hk => hk.2)⟩, ⟨by (with_reducible repeat (first | refine blk_drewN ?_ _ | refine blk_drew ?_ | refine blk_alloc ?_ _)); exact BK475.out⟩, ⟨by repeat (first | (with_reducible first | exact HB.out | apply below_alloc | apply pw_below_drewN | apply below_drew1 | refine below_set ?_ GE475.out) | exact HB.out)⟩⟩
      ·replace c30 := Bool.eq_false_iff.mpr c30
       subst c30
       have H1 : (laws_FnPlans.j1 k1 t476 t486 t489 t490 true t464 t467 t470 t473 t474) = some r := by rw [if_neg (show ¬ (false = true) by decide)] at H; exact H
       clear H
       have H := H1
       clear H1
       have H' := Aside0.mk H
       clear H
       go_wp2
       go_meet
       case rel => exact ⟨_, (true), (by first | rfl | (simp; done) | (simp [*]; done) | (simp [Int.tdiv_eq_ediv_of_nonneg, *]; done)), H', ⟨by have := HK1.out; first | omega | exact Nat.le_refl _⟩, ⟨by (with_reducible repeat (first | apply Kd.S_alloc | apply Kd.S_drewN | apply Kd.S_drew)); exact Kd.S_mono HO_6.out (fun _ hk => ⟨hk.2, ⟨hk.1.2.1, hk.1.2.2⟩⟩)⟩, ⟨by (with_reducible repeat (first | apply Kd.S_alloc | apply Kd.S_drewN | apply Kd.S_drew)); exact Kd.S_mono HO488.out (fun _ hk => ⟨hk.1.1.1.2, ⟨hk.1.2, hk.2⟩⟩)⟩, ⟨by (with_reducible repeat (first | apply Kd.R_alloc | apply Kd.R_drewN | apply Kd.R_drew)); exact HO_476000.out⟩, ⟨by (with_reducible repeat (first | apply Kd.R_alloc | apply Kd.R_drewN | apply Kd.R_drew)); exact Kd.R_mono HO_476001.out (fun _ hk => hk.2)⟩, ⟨by (with_reducible repeat (first | apply Kd.R_alloc | apply Kd.R_drewN | apply Kd.R_drew)); exact Kd.R_mono HO_476002.out (fun _ hk => hk.2)⟩, ⟨by (with_reducible repeat (first | refine blk_drewN ?_ _ | refine blk_drew ?_ | refine blk_alloc ?_ _)); exact BK475.out⟩, ⟨by repeat (first | (with_reducible first | exact HB.out | apply below_alloc | apply pw_below_drewN | apply below_drew1 | refine below_set ?_ GE475.out) | exact HB.out)⟩⟩
     case rest =>
      clear HC23
      try clear c1
      try clear c2
      try clear p2
      try clear c3
      try clear c4
      try clear p4
      try clear q4
      try clear hx4
      try clear c5
      try clear p6
      try clear c9
      try clear c10
      try clear c16
      try clear c16b0
      try clear c17
      try clear c17b0
      try clear c18
      try clear c19
      try clear c20
      try clear c30
      try clear c31
      try clear c33
      try clear c35
      try clear c48
      try clear p48
      try clear q48
      try clear hx48
      try clear c50
      try clear hcz10_0
      try clear hcz10_1
      try clear hcz10_2
      try clear hcz10_3
      try clear hcz10_4
      try clear hcz25_0
      try clear hcz25_1
      try clear hcz25_2
      try clear hcz25_3
      try clear hcz25_4
      try clear hcz28_0
      try clear hcz28_1
      try clear hcz28_2
      try clear hcz28_3
      try clear hcz28_4
      try clear hcz36_0
      try clear hcz36_1
      try clear hcz36_2
      try clear hcz36_3
      try clear hcz36_4
      try clear hcz39_0
      try clear hcz39_1
      try clear hcz39_2
      try clear hcz39_3
      try clear hcz39_4
      try clear hcz41_0
      try clear hcz41_1
      try clear hcz41_2
      try clear hcz41_3
      try clear hcz41_4
      try clear hcz44_0
      try clear hcz44_1
      try clear hcz44_2
      try clear hcz44_3
      try clear hcz44_4
      try clear hcz46_0
      try clear hcz46_1
      try clear hcz46_2
      try clear hcz46_3
      try clear hcz46_4
      try clear hcz51_0
      try clear hcz51_1
      try clear hcz51_2
      try clear hcz51_3
      try clear hcz51_4
      try clear hcz53_0
      try clear hcz53_1
      try clear hcz53_2
      try clear hcz53_3
      try clear hcz53_4
      try clear hfz10_0
      try clear hfz10_1
      try clear hfz10_2
      try clear hfz10_3
      try clear hfz10_4
      try clear hfz25_0
      try clear hfz25_1
      try clear hfz25_2
      try clear hfz25_3
      try clear hfz25_4
      try clear hfz28_0
      try clear hfz28_1
      try clear hfz28_2
      try clear hfz28_3
      try clear hfz28_4
      try clear hfz36_0
      try clear hfz36_1
      try clear hfz36_2
      try clear hfz36_3
      try clear hfz36_4
      try clear hfz39_0
      try clear hfz39_1
      try clear hfz39_2
      try clear hfz39_3
      try clear hfz39_4
      try clear hfz41_0
      try clear hfz41_1
      try clear hfz41_2
      try clear hfz41_3
      try clear hfz41_4
      try clear hfz44_0
      try clear hfz44_1
      try clear hfz44_2
      try clear hfz44_3
      try clear hfz44_4
      try clear hfz46_0
      try clear hfz46_1
      try clear hfz46_2
      try clear hfz46_3
      try clear hfz46_4
      try clear hfz51_0
      try clear hfz51_1
      try clear hfz51_2
      try clear hfz51_3
      try clear hfz51_4
      try clear hfz53_0
      try clear hfz53_1
      try clear hfz53_2
      try clear hfz53_3
      try clear hfz53_4
      try clear hx482_0
      try clear hx482_1
      try clear p2
      try clear p482
      try clear q482
      obtain ⟨kq, x70_22, rfl, HA, HJ22, HO_6, HO_9, HO_476000, HO_476001, HO_476002, BK475, HB⟩ := hcut
      cases kq with
      | zero => exact absurd HA.out (by simp [laws_FnPlans.j1])
      | succ kj22 =>
       have H := HA.out
       clear HA
       simp only [laws_FnPlans.j1] at H
       by_cases c55 : x70_22 = true
       ·subst c55
        have H1 : (some false) = some r := by rw [if_pos rfl] at H; exact H
        clear H
        have H := H1
        clear H1
        obtain rfl := Option.some.inj H
        go_wp2
        go_ret
        exact ⟨by first | rfl | (simp [errW_none, errW_some] <;> rfl) | (simp [*, errW_none, errW_some] <;> rfl) | (simp [Int.tdiv_eq_ediv_of_nonneg, *]; done), by repeat (first | (with_reducible first | exact HB.out | apply below_alloc | apply pw_below_drewN | apply below_drew1 | refine below_set ?_ GE475.out) | exact HB.out)⟩
       ·replace c55 := Bool.eq_false_iff.mpr c55
        subst c55
        have H1 : (if t489 = true then ((impl_IsEnough.f kj22 t464 t467 t470 t473 t474 t476).bind fun t495 => (laws_FnPlans.j2 kj22 t476 t486 t490 (!t495) t464 t467 t470 t473 t474)) else (laws_FnPlans.j2 kj22 t476 t486 t490 true t464 t467 t470 t473 t474)) = some r := by rw [if_neg (show ¬ (false = true) by decide)] at H; exact H
        clear H
        have H := H1
        clear H1
        have HC56 := Aside0.mk H
        clear H
        go_upto_region 14 with (fail)
        go_cut [78] (fun v78 wc => ∃ (kq : Nat) (x78_55 : Bool), v78 = .bool x78_55 ∧ Aside0 (laws_FnPlans.j2 kq t476 t486 t490 x78_55 t464 t467 t470 t473 t474 = some r) ∧ Aside0 (kq ≤ kj22) ∧ Aside0 (Kd.S k49 49 wc w.heap.size (fun k_ => some k_ ≠ (v487 : Value).ownBlock ∧ some k_ ≠ ((.slice Ao11 t467.length co11) : Value).ownBlock ∧ some k_ ≠ ((.slice Ao12 t470.length co12) : Value).ownBlock) (.slice Ao24 t476.length co24) t476) ∧ Aside0 (Kd.S k49 49 wc w.heap.size (fun k_ => some k_ ≠ ((.slice Ao24 t476.length co24) : Value).ownBlock ∧ some k_ ≠ ((.slice Ao11 t467.length co11) : Value).ownBlock ∧ some k_ ≠ ((.slice Ao12 t470.length co12) : Value).ownBlock) v487 t486) ∧ Aside0 (Kd.R k34 34 wc w.heap.size (fun _ => True) (.slice Ao9 t464.length co9) t464) ∧ Aside0 (Kd.R (Kd.int .i64) 2 wc w.heap.size (fun k_ => some k_ ≠ ((.slice Ao12 t470.length co12) : Value).ownBlock) (.slice Ao11 t467.length co11) t467) ∧ Aside0 (Kd.R (Kd.int .i64) 2 wc w.heap.size (fun k_ => some k_ ≠ ((.slice Ao11 t467.length co11) : Value).ownBlock) (.slice Ao12 t470.length co12) t470) ∧ Aside0 (wc.heap[gb475]? = some (.cells #[(.slice Ao9 t464.length co9), (.slice Ao11 t467.length co11), (.slice Ao12 t470.length co12), .int .i64 t473, .int .i64 t474] 27 (0, 0))) ∧ Aside0 (Below w.heap.size w wc))
        case first =>
         have H := HC56.out
         clear HC56
         by_cases c57 : t489 = true
         ·subst c57
          have H1 : ((impl_IsEnough.f kj22 t464 t467 t470 t473 t474 t476).bind fun t495 => (laws_FnPlans.j2 kj22 t476 t486 t490 (!t495) t464 t467 t470 t473 t474)) = some r := by rw [if_pos rfl] at H; exact H
          clear H
          have H := H1
          clear H1
          replace H := Option.bind_eq_some_iff.mp H
          obtain ⟨t495, A580, H⟩ := H
          replace H : (laws_FnPlans.j2 kj22 t476 t486 t490 (!t495) t464 t467 t470 t473 t474) = some r := H
          have A58 := Aside0.mk A580
          clear A580
          have H' := Aside0.mk H
          clear H
          have hcz59_0 : wc.cell? ⟨gb475, 0, none⟩ = some (.slice Ao9 t464.length co9) := (blk_cell BK475.out 0).trans rfl
          have hcz59_1 : wc.cell? ⟨gb475, 1, none⟩ = some (.slice Ao11 t467.length co11) := (blk_cell BK475.out 1).trans rfl
          have hcz59_2 : wc.cell? ⟨gb475, 2, none⟩ = some (.slice Ao12 t470.length co12) := (blk_cell BK475.out 2).trans rfl
          have hcz59_3 : wc.cell? ⟨gb475, 3, none⟩ = some (.int .i64 t473) := (blk_cell BK475.out 3).trans rfl
          have hcz59_4 : wc.cell? ⟨gb475, 4, none⟩ = some (.int .i64 t474) := (blk_cell BK475.out 4).trans rfl
          have hfz59_0 := blk_frozen BK475.out 0
          have hfz59_1 := blk_frozen BK475.out 1
          have hfz59_2 := blk_frozen BK475.out 2
          have hfz59_3 := blk_frozen BK475.out 3
          have hfz59_4 := blk_frozen BK475.out 4
          go_wp2_with (first | (go_at_call 21; (with_reducible refine (impl_IsEnough.calls kj22 _ _ t464 _ _ t467 _ _ t470 t473 t474 _ _ t476 t495 _ ?side1 ?side2 ?side3 ?side4 ?side5 ?side6 ?side7 ?side8 A58.out).mono ?_); (case side1 => repeat (first | exact (Kd.R_reads' HO_476000.out).2.2 | (with_reducible refine Kd.C_alloc ?_ _) | (with_reducible refine Kd.C_drewN ?_ _) | (with_reducible refine Kd.C_drew ?_))); (case side2 => exact (Kd.R_reads' HO_476000.out).2.1); (case side3 => repeat (first | exact (Kd.R_reads' HO_476001.out).2.2 | (with_reducible refine Kd.C_alloc ?_ _) | (with_reducible refine Kd.C_drewN ?_ _) | (with_reducible refine Kd.C_drew ?_))); (case side4 => exact (Kd.R_reads' HO_476001.out).2.1); (case side5 => repeat (first | exact (Kd.R_reads' HO_476002.out).2.2 | (with_reducible refine Kd.C_alloc ?_ _) | (with_reducible refine Kd.C_drewN ?_ _) | (with_reducible refine Kd.C_drew ?_))); (case side6 => exact (Kd.R_reads' HO_476002.out).2.1); (case side7 => repeat (first | exact (Kd.S_reads' HO_6.out).2.2 | (with_reducible refine Kd.C_alloc ?_ _) | (with_reducible refine Kd.C_drewN ?_ _) | (with_reducible refine Kd.C_drew ?_))); (case side8 => exact (Kd.S_reads' HO_6.out).2.1); rintro e w60 ⟨rfl, hb⟩; have n0_ := Aside0.mk (Kd.S_below (by (with_reducible repeat (first | apply Kd.S_alloc | apply Kd.S_drewN | apply Kd.S_drew)); exact HO_6.out) hb); have n1_ := Aside0.mk (Kd.S_below (by (with_reducible repeat (first | apply Kd.S_alloc | apply Kd.S_drewN | apply Kd.S_drew)); exact HO_9.out) hb); have n2_ := Aside0.mk (Kd.R_below (by (with_reducible repeat (first | apply Kd.R_alloc | apply Kd.R_drewN | apply Kd.R_drew)); exact HO_476000.out) hb); have n3_ := Aside0.mk (Kd.R_below (by (with_reducible repeat (first | apply Kd.R_alloc | apply Kd.R_drewN | apply Kd.R_drew)); exact HO_476001.out) hb); have n4_ := Aside0.mk (Kd.R_below (by (with_reducible repeat (first | apply Kd.R_alloc | apply Kd.R_drewN | apply Kd.R_drew)); exact HO_476002.out) hb); have n5_ := Aside0.mk (blk_below (g := gb475) (o := .cells #[.slice Ao9 t464.length co9, .slice Ao11 t467.length co11, .slice Ao12 t470.length co12, .int .i64 t473, .int .i64 t474] 27 (0, 0)) (by (with_reducible repeat (first | refine blk_drewN ?_ _ | refine blk_drew ?_ | refine blk_alloc ?_ _)); exact BK475.out) hb); have n6_ := Aside0.mk (below_step (by repeat (first | (with_reducible first | exact HB.out | apply below_alloc | apply pw_below_drewN | apply below_drew1 | refine below_set ?_ GE475.out) | exact HB.out)) hb); clear HO_6; clear HO_9; clear HO_476000; clear HO_476001; clear HO_476002; clear BK475; clear HB; have HO_6 := n0_; have HO_9 := n1_; have HO_476000 := n2_; have HO_476001 := n3_; have HO_476002 := n4_; have BK475 := n5_; have HB := n6_; clear n0_ n1_ n2_ n3_ n4_ n5_ n6_; (try clear hb); (try clear hb2); (try clear hk); (try clear hi)))
          go_meet
          case rel => exact ⟨_, (!t495), (by first | rfl | (simp; done) | (simp [*]; done) | (simp [Int.tdiv_eq_ediv_of_nonneg, *]; done)), H', ⟨by have := HK1.out; have := HJ22.out; first | omega | exact Nat.le_refl _⟩, ⟨by (with_reducible repeat (first | apply Kd.S_alloc | apply Kd.S_drewN | apply Kd.S_drew)); exact HO_6.out⟩, ⟨by (with_reducible repeat (first | apply Kd.S_alloc | apply Kd.S_drewN | apply Kd.S_drew)); exact HO_9.out⟩, ⟨by (with_reducible repeat (first | apply Kd.R_alloc | apply Kd.R_drewN | apply Kd.R_drew)); exact HO_476000.out⟩, ⟨by (with_reducible repeat (first | apply Kd.R_alloc | apply Kd.R_drewN | apply Kd.R_drew)); exact HO_476001.out⟩, ⟨by (with_reducible repeat (first | apply Kd.R_alloc | apply Kd.R_drewN | apply Kd.R_drew)); exact HO_476002.out⟩, ⟨by (with_reducible repeat (first | refine blk_drewN ?_ _ | refine blk_drew ?_ | refine blk_alloc ?_ _)); exact BK475.out⟩, ⟨by repeat (first | (with_reducible first | exact HB.out | apply below_alloc | apply pw_below_drewN | apply below_drew1 | refine below_set ?_ GE475.out) | exact HB.out)⟩⟩
         ·replace c57 := Bool.eq_false_iff.mpr c57
          subst c57
          have H1 : (laws_FnPlans.j2 kj22 t476 t486 t490 true t464 t467 t470 t473 t474) = some r := by rw [if_neg (show ¬ (false = true) by decide)] at H; exact H
          clear H
          have H := H1
          clear H1
          have H' := Aside0.mk H
          clear H
          go_wp2
          go_meet
          case rel => exact ⟨_, (true), (by first | rfl | (simp; done) | (simp [*]; done) | (simp [Int.tdiv_eq_ediv_of_nonneg, *]; done)), H', ⟨by have := HK1.out; have := HJ22.out; first | omega | exact Nat.le_refl _⟩, ⟨by (with_reducible repeat (first | apply Kd.S_alloc | apply Kd.S_drewN | apply Kd.S_drew)); exact HO_6.out⟩, ⟨by (with_reducible repeat (first | apply Kd.S_alloc | apply Kd.S_drewN | apply Kd.S_drew)); exact HO_9.out⟩, ⟨by (with_reducible repeat (first | apply Kd.R_alloc | apply Kd.R_drewN | apply Kd.R_drew)); exact HO_476000.out⟩, ⟨by (with_reducible repeat (first | apply Kd.R_alloc | apply Kd.R_drewN | apply Kd.R_drew)); exact HO_476001.out⟩, ⟨by (with_reducible repeat (first | apply Kd.R_alloc | apply Kd.R_drewN | apply Kd.R_drew)); exact HO_476002.out⟩, ⟨by (with_reducible repeat (first | refine blk_drewN ?_ _ | refine blk_drew ?_ | refine blk_alloc ?_ _)); exact BK475.out⟩, ⟨by repeat (first | (with_reducible first | exact HB.out | apply below_alloc | apply pw_below_drewN | apply below_drew1 | refine below_set ?_ GE475.out) | exact HB.out)⟩⟩
        case rest =>
         clear HC56
         try clear c1
         try clear c2
         try clear p2
         try clear c3
         try clear c4
         try clear p4
         try clear q4
         try clear hx4
         try clear c5
         try clear p6
         try clear c9
         try clear c10
         try clear c16
         try clear c16b0
         try clear c17
         try clear c17b0
         try clear c18
         try clear c19
         try clear c20
         try clear c30
         try clear c31
         try clear c33
         try clear c35
         try clear c48
         try clear p48
         try clear q48
         try clear hx48
         try clear c50
         try clear c55
         try clear c57
         try clear hcz10_0
         try clear hcz10_1
         try clear hcz10_2
         try clear hcz10_3
         try clear hcz10_4
         try clear hcz25_0
         try clear hcz25_1
         try clear hcz25_2
         try clear hcz25_3
         try clear hcz25_4
         try clear hcz28_0
         try clear hcz28_1
         try clear hcz28_2
         try clear hcz28_3
         try clear hcz28_4
         try clear hcz36_0
         try clear hcz36_1
         try clear hcz36_2
         try clear hcz36_3
         try clear hcz36_4
         try clear hcz39_0
         try clear hcz39_1
         try clear hcz39_2
         try clear hcz39_3
         try clear hcz39_4
         try clear hcz41_0
         try clear hcz41_1
         try clear hcz41_2
         try clear hcz41_3
         try clear hcz41_4
         try clear hcz44_0
         try clear hcz44_1
         try clear hcz44_2
         try clear hcz44_3
         try clear hcz44_4
         try clear hcz46_0
         try clear hcz46_1
         try clear hcz46_2
         try clear hcz46_3
         try clear hcz46_4
         try clear hcz51_0
         try clear hcz51_1
         try clear hcz51_2
         try clear hcz51_3
         try clear hcz51_4
         try clear hcz53_0
         try clear hcz53_1
         try clear hcz53_2
         try clear hcz53_3
         try clear hcz53_4
         try clear hcz59_0
         try clear hcz59_1
         try clear hcz59_2
         try clear hcz59_3
         try clear hcz59_4
         try clear hfz10_0
         try clear hfz10_1
         try clear hfz10_2
         try clear hfz10_3
         try clear hfz10_4
         try clear hfz25_0
         try clear hfz25_1
         try clear hfz25_2
         try clear hfz25_3
         try clear hfz25_4
         try clear hfz28_0
         try clear hfz28_1
         try clear hfz28_2
         try clear hfz28_3
         try clear hfz28_4
         try clear hfz36_0
         try clear hfz36_1
         try clear hfz36_2
         try clear hfz36_3
         try clear hfz36_4
         try clear hfz39_0
         try clear hfz39_1
         try clear hfz39_2
         try clear hfz39_3
         try clear hfz39_4
         try clear hfz41_0
         try clear hfz41_1
         try clear hfz41_2
         try clear hfz41_3
         try clear hfz41_4
         try clear hfz44_0
         try clear hfz44_1
         try clear hfz44_2
         try clear hfz44_3
         try clear hfz44_4
         try clear hfz46_0
         try clear hfz46_1
         try clear hfz46_2
         try clear hfz46_3
         try clear hfz46_4
         try clear hfz51_0
         try clear hfz51_1
         try clear hfz51_2
         try clear hfz51_3
         try clear hfz51_4
         try clear hfz53_0
         try clear hfz53_1
         try clear hfz53_2
         try clear hfz53_3
         try clear hfz53_4
         try clear hfz59_0
         try clear hfz59_1
         try clear hfz59_2
         try clear hfz59_3
         try clear hfz59_4
         try clear hx482_0
         try clear hx482_1
         try clear p2
         try clear p4
         try clear p48
         try clear p482
         try clear p6
         try clear q4
         try clear q48
         try clear q482
         obtain ⟨kq, x78_55, rfl, HA, HJ55, HO_6, HO_9, HO_476000, HO_476001, HO_476002, BK475, HB⟩ := hcut
         cases kq with
         | zero => exact absurd HA.out (by simp [laws_FnPlans.j2])
         | succ kj55 =>
          have H := HA.out
          clear HA
          simp only [laws_FnPlans.j2] at H
          by_cases c61 : x78_55 = true
          ·subst c61
           have H1 : (some true) = some r := by rw [if_pos rfl] at H; exact H
           clear H
           have H := H1
           clear H1
           obtain rfl := Option.some.inj H
           go_wp2
           go_ret
           exact ⟨by first | rfl | (simp [errW_none, errW_some] <;> rfl) | (simp [*, errW_none, errW_some] <;> rfl) | (simp [Int.tdiv_eq_ediv_of_nonneg, *]; done), by repeat (first | (with_reducible first | exact HB.out | apply below_alloc | apply pw_below_drewN | apply below_drew1 | refine below_set ?_ GE475.out) | exact HB.out)⟩
          ·replace c61 := Bool.eq_false_iff.mpr c61
           subst c61
           have H1 : ((impl_CostOf.f kj55 t464 t467 t470 t473 t474 t486).bind fun bt496 => (if bt496.2 = true then (laws_FnPlans.j3 kj55 t476 t486 (decide (bt496.1 > t490)) t464 t467 t470 t473 t474) else (laws_FnPlans.j3 kj55 t476 t486 true t464 t467 t470 t473 t474))) = some r := by rw [if_neg (show ¬ (false = true) by decide)] at H; exact H
           clear H
           have H := H1
           clear H1
           replace H := Option.bind_eq_some_iff.mp H
           obtain ⟨⟨t496, t497⟩, A620, H⟩ := H
           replace H : (if t497 = true then (laws_FnPlans.j3 kj55 t476 t486 (decide (t496 > t490)) t464 t467 t470 t473 t474) else (laws_FnPlans.j3 kj55 t476 t486 true t464 t467 t470 t473 t474)) = some r := H
           have A62 := Aside0.mk A620
           clear A620
           have HC63 := Aside0.mk H
           clear H
           have hcz64_0 : wc.cell? ⟨gb475, 0, none⟩ = some (.slice Ao9 t464.length co9) := (blk_cell BK475.out 0).trans rfl
           have hcz64_1 : wc.cell? ⟨gb475, 1, none⟩ = some (.slice Ao11 t467.length co11) := (blk_cell BK475.out 1).trans rfl
           have hcz64_2 : wc.cell? ⟨gb475, 2, none⟩ = some (.slice Ao12 t470.length co12) := (blk_cell BK475.out 2).trans rfl
           have hcz64_3 : wc.cell? ⟨gb475, 3, none⟩ = some (.int .i64 t473) := (blk_cell BK475.out 3).trans rfl
           have hcz64_4 : wc.cell? ⟨gb475, 4, none⟩ = some (.int .i64 t474) := (blk_cell BK475.out 4).trans rfl
           have hfz64_0 := blk_frozen BK475.out 0
           have hfz64_1 := blk_frozen BK475.out 1
           have hfz64_2 := blk_frozen BK475.out 2
           have hfz64_3 := blk_frozen BK475.out 3
           have hfz64_4 := blk_frozen BK475.out 4
           obtain ⟨Ao65, co65, eo65⟩ := Kd.S_slice HO_9.out
           subst eo65
           go_upto_region 17 with (first | ((with_reducible refine gate_callee (f := 19) rfl ?_); refine goesL_ (some 82) rfl rfl Try.func19 (by kernel_rfl) rfl #[.agg #[.slice Ao9 t464.length co9, .slice Ao11 t467.length co11, .slice Ao12 t470.length co12, .int .i64 t473, .int .i64 t474], .slice Ao65 t486.length co65] rfl (by (try simp only [List.map_toArray, List.map_cons, List.map_nil]); first | done | rfl | (simp only [List.length_drop, List.length_take]; rfl)) ?_; (with_reducible refine (impl_CostOf.calls kj55 _ _ t464 _ _ t467 _ _ t470 t473 t474 _ _ t486 t496 t497 _ ?side1 ?side2 ?side3 ?side4 ?side5 ?side6 ?side7 ?side8 A62.out).mono ?_); (case side1 => repeat (first | exact (Kd.R_reads' HO_476000.out).2.2 | (with_reducible refine Kd.C_alloc ?_ _) | (with_reducible refine Kd.C_drewN ?_ _) | (with_reducible refine Kd.C_drew ?_))); (case side2 => exact (Kd.R_reads' HO_476000.out).2.1); (case side3 => repeat (first | exact (Kd.R_reads' HO_476001.out).2.2 | (with_reducible refine Kd.C_alloc ?_ _) | (with_reducible refine Kd.C_drewN ?_ _) | (with_reducible refine Kd.C_drew ?_))); (case side4 => exact (Kd.R_reads' HO_476001.out).2.1); (case side5 => repeat (first | exact (Kd.R_reads' HO_476002.out).2.2 | (with_reducible refine Kd.C_alloc ?_ _) | (with_reducible refine Kd.C_drewN ?_ _) | (with_reducible refine Kd.C_drew ?_))); (case side6 => exact (Kd.R_reads' HO_476002.out).2.1); (case side7 => repeat (first | exact (Kd.S_reads' HO_9.out).2.2 | (with_reducible refine Kd.C_alloc ?_ _) | (with_reducible refine Kd.C_drewN ?_ _) | (with_reducible refine Kd.C_drew ?_))); (case side8 => exact (Kd.S_reads' HO_9.out).2.1); rintro e w66 ⟨rfl, hb⟩; refine ⟨_, rfl, ?_⟩; have n0_ := Aside0.mk (Kd.S_below (by (with_reducible repeat (first | apply Kd.S_alloc | apply Kd.S_drewN | apply Kd.S_drew)); exact HO_6.out) hb); have n1_ := Aside0.mk (Kd.S_below (by (with_reducible repeat (first | apply Kd.S_alloc | apply Kd.S_drewN | apply Kd.S_drew)); exact HO_9.out) hb); have n2_ := Aside0.mk (Kd.R_below (by (with_reducible repeat (first | apply Kd.R_alloc | apply Kd.R_drewN | apply Kd.R_drew)); exact HO_476000.out) hb); have n3_ := Aside0.mk (Kd.R_below (by (with_reducible repeat (first | apply Kd.R_alloc | apply Kd.R_drewN | apply Kd.R_drew)); exact HO_476001.out) hb); have n4_ := Aside0.mk (Kd.R_below (by (with_reducible repeat (first | apply Kd.R_alloc | apply Kd.R_drewN | apply Kd.R_drew)); exact HO_476002.out) hb); have n5_ := Aside0.mk (blk_below (g := gb475) (o := .cells #[.slice Ao9 t464.length co9, .slice Ao11 t467.length co11, .slice Ao12 t470.length co12, .int .i64 t473, .int .i64 t474] 27 (0, 0)) (by (with_reducible repeat (first | refine blk_drewN ?_ _ | refine blk_drew ?_ | refine blk_alloc ?_ _)); exact BK475.out) hb); have n6_ := Aside0.mk (below_step (by repeat (first | (with_reducible first | exact HB.out | apply below_alloc | apply pw_below_drewN | apply below_drew1 | refine below_set ?_ GE475.out) | exact HB.out)) hb); clear HO_6; clear HO_9; clear HO_476000; clear HO_476001; clear HO_476002; clear BK475; clear HB; have HO_6 := n0_; have HO_9 := n1_; have HO_476000 := n2_; have HO_476001 := n3_; have HO_476002 := n4_; have BK475 := n5_; have HB := n6_; clear n0_ n1_ n2_ n3_ n4_ n5_ n6_; (try clear hb); (try clear hb2); (try clear hk); (try clear hi)))
           (try simp only [Act.put, List.setIfInBounds_toArray, List.set_cons_zero, List.set_cons_succ])
           go_cut [91] (fun v91 wc => ∃ (kq : Nat) (x91_62 : Bool), v91 = .bool x91_62 ∧ Aside0 (laws_FnPlans.j3 kq t476 t486 x91_62 t464 t467 t470 t473 t474 = some r) ∧ Aside0 (kq ≤ kj55) ∧ Aside0 (Kd.S k49 49 wc w.heap.size (fun k_ => some k_ ≠ ((.slice Ao65 t486.length co65) : Value).ownBlock ∧ some k_ ≠ ((.slice Ao11 t467.length co11) : Value).ownBlock ∧ some k_ ≠ ((.slice Ao12 t470.length co12) : Value).ownBlock) (.slice Ao24 t476.length co24) t476) ∧ Aside0 (Kd.S k49 49 wc w.heap.size (fun k_ => some k_ ≠ ((.slice Ao24 t476.length co24) : Value).ownBlock ∧ some k_ ≠ ((.slice Ao11 t467.length co11) : Value).ownBlock ∧ some k_ ≠ ((.slice Ao12 t470.length co12) : Value).ownBlock) (.slice Ao65 t486.length co65) t486) ∧ Aside0 (Kd.R k34 34 wc w.heap.size (fun _ => True) (.slice Ao9 t464.length co9) t464) ∧ Aside0 (Kd.R (Kd.int .i64) 2 wc w.heap.size (fun k_ => some k_ ≠ ((.slice Ao12 t470.length co12) : Value).ownBlock) (.slice Ao11 t467.length co11) t467) ∧ Aside0 (Kd.R (Kd.int .i64) 2 wc w.heap.size (fun k_ => some k_ ≠ ((.slice Ao11 t467.length co11) : Value).ownBlock) (.slice Ao12 t470.length co12) t470) ∧ Aside0 (wc.heap[gb475]? = some (.cells #[(.slice Ao9 t464.length co9), (.slice Ao11 t467.length co11), (.slice Ao12 t470.length co12), .int .i64 t473, .int .i64 t474] 27 (0, 0))) ∧ Aside0 (Below w.heap.size w wc))
           case first =>
            have H := HC63.out
            clear HC63
            by_cases c67 : t497 = true
            ·subst c67
             have H1 : (laws_FnPlans.j3 kj55 t476 t486 (decide (t496 > t490)) t464 t467 t470 t473 t474) = some r := by rw [if_pos rfl] at H; exact H
             clear H
             have H := H1
             clear H1
             have H' := Aside0.mk H
             clear H
             go_wp2
             go_meet
             case rel => exact ⟨_, (decide (t496 > t490)), (by first | rfl | (simp; done) | (simp [*]; done) | (simp [Int.tdiv_eq_ediv_of_nonneg, *]; done)), H', ⟨by have := HK1.out; have := HJ22.out; have := HJ55.out; first | omega | exact Nat.le_refl _⟩, ⟨by (with_reducible repeat (first | apply Kd.S_alloc | apply Kd.S_drewN | apply Kd.S_drew)); exact HO_6.out⟩, ⟨by (with_reducible repeat (first | apply Kd.S_alloc | apply Kd.S_drewN | apply Kd.S_drew)); exact HO_9.out⟩, ⟨by (with_reducible repeat (first | apply Kd.R_alloc | apply Kd.R_drewN | apply Kd.R_drew)); exact HO_476000.out⟩, ⟨by (with_reducible repeat (first | apply Kd.R_alloc | apply Kd.R_drewN | apply Kd.R_drew)); exact HO_476001.out⟩, ⟨by (with_reducible repeat (first | apply Kd.R_alloc | apply Kd.R_drewN | apply Kd.R_drew)); exact HO_476002.out⟩, ⟨by (with_reducible repeat (first | refine blk_drewN ?_ _ | refine blk_drew ?_ | refine blk_alloc ?_ _)); exact BK475.out⟩, ⟨by repeat (first | (with_reducible first | exact HB.out | apply below_alloc | apply pw_below_drewN | apply below_drew1 | refine below_set ?_ GE475.out) | exact HB.out)⟩⟩
            ·replace c67 := Bool.eq_false_iff.mpr c67
             subst c67
             have H1 : (laws_FnPlans.j3 kj55 t476 t486 true t464 t467 t470 t473 t474) = some r := by rw [if_neg (show ¬ (false = true) by decide)] at H; exact H
             clear H
             have H := H1
             clear H1
             have H' := Aside0.mk H
             clear H
             go_wp2
             go_meet
             case rel => exact ⟨_, (true), (by first | rfl | (simp; done) | (simp [*]; done) | (simp [Int.tdiv_eq_ediv_of_nonneg, *]; done)), H', ⟨by have := HK1.out; have := HJ22.out; have := HJ55.out; first | omega | exact Nat.le_refl _⟩, ⟨by (with_reducible repeat (first | apply Kd.S_alloc | apply Kd.S_drewN | apply Kd.S_drew)); exact HO_6.out⟩, ⟨by (with_reducible repeat (first | apply Kd.S_alloc | apply Kd.S_drewN | apply Kd.S_drew)); exact HO_9.out⟩, ⟨by (with_reducible repeat (first | apply Kd.R_alloc | apply Kd.R_drewN | apply Kd.R_drew)); exact HO_476000.out⟩, ⟨by (with_reducible repeat (first | apply Kd.R_alloc | apply Kd.R_drewN | apply Kd.R_drew)); exact HO_476001.out⟩, ⟨by (with_reducible repeat (first | apply Kd.R_alloc | apply Kd.R_drewN | apply Kd.R_drew)); exact HO_476002.out⟩, ⟨by (with_reducible repeat (first | refine blk_drewN ?_ _ | refine blk_drew ?_ | refine blk_alloc ?_ _)); exact BK475.out⟩, ⟨by repeat (first | (with_reducible first | exact HB.out | apply below_alloc | apply pw_below_drewN | apply below_drew1 | refine below_set ?_ GE475.out) | exact HB.out)⟩⟩
           case rest =>
            clear HC63
            try clear c1
            try clear c2
            try clear p2
            try clear c3
            try clear c4
            try clear p4
            try clear q4
            try clear hx4
            try clear c5
            try clear c6
            try clear p6
            try clear c9
            try clear c10
            try clear c16
            try clear c16b0
            try clear c17
            try clear c17b0
            try clear c18
            try clear c19
            try clear c20
            try clear c30
            try clear c31
            try clear c33
            try clear c35
            try clear c48
            try clear p48
            try clear q48
            try clear hx48
            try clear c50
            try clear c55
            try clear c57
            try clear c61
            try clear c67
            try clear hcz10_0
            try clear hcz10_1
            try clear hcz10_2
            try clear hcz10_3
            try clear hcz10_4
            try clear hcz25_0
            try clear hcz25_1
            try clear hcz25_2
            try clear hcz25_3
            try clear hcz25_4
            try clear hcz28_0
            try clear hcz28_1
            try clear hcz28_2
            try clear hcz28_3
            try clear hcz28_4
            try clear hcz36_0
            try clear hcz36_1
            try clear hcz36_2
            try clear hcz36_3
            try clear hcz36_4
            try clear hcz39_0
            try clear hcz39_1
            try clear hcz39_2
            try clear hcz39_3
            try clear hcz39_4
            try clear hcz41_0
            try clear hcz41_1
            try clear hcz41_2
            try clear hcz41_3
            try clear hcz41_4
            try clear hcz44_0
            try clear hcz44_1
            try clear hcz44_2
            try clear hcz44_3
            try clear hcz44_4
            try clear hcz46_0
            try clear hcz46_1
            try clear hcz46_2
            try clear hcz46_3
            try clear hcz46_4
            try clear hcz51_0
            try clear hcz51_1
            try clear hcz51_2
            try clear hcz51_3
            try clear hcz51_4
            try clear hcz53_0
            try clear hcz53_1
            try clear hcz53_2
            try clear hcz53_3
            try clear hcz53_4
            try clear hcz59_0
            try clear hcz59_1
            try clear hcz59_2
            try clear hcz59_3
            try clear hcz59_4
            try clear hcz64_0
            try clear hcz64_1
            try clear hcz64_2
            try clear hcz64_3
            try clear hcz64_4
            try clear hfz10_0
            try clear hfz10_1
            try clear hfz10_2
            try clear hfz10_3
            try clear hfz10_4
            try clear hfz25_0
            try clear hfz25_1
            try clear hfz25_2
            try clear hfz25_3
            try clear hfz25_4
            try clear hfz28_0
            try clear hfz28_1
            try clear hfz28_2
            try clear hfz28_3
            try clear hfz28_4
            try clear hfz36_0
            try clear hfz36_1
            try clear hfz36_2
            try clear hfz36_3
            try clear hfz36_4
            try clear hfz39_0
            try clear hfz39_1
            try clear hfz39_2
            try clear hfz39_3
            try clear hfz39_4
            try clear hfz41_0
            try clear hfz41_1
            try clear hfz41_2
            try clear hfz41_3
            try clear hfz41_4
            try clear hfz44_0
            try clear hfz44_1
            try clear hfz44_2
            try clear hfz44_3
            try clear hfz44_4
            try clear hfz46_0
            try clear hfz46_1
            try clear hfz46_2
            try clear hfz46_3
            try clear hfz46_4
            try clear hfz51_0
            try clear hfz51_1
            try clear hfz51_2
            try clear hfz51_3
            try clear hfz51_4
            try clear hfz53_0
            try clear hfz53_1
            try clear hfz53_2
            try clear hfz53_3
            try clear hfz53_4
            try clear hfz59_0
            try clear hfz59_1
            try clear hfz59_2
            try clear hfz59_3
            try clear hfz59_4
            try clear hfz64_0
            try clear hfz64_1
            try clear hfz64_2
            try clear hfz64_3
            try clear hfz64_4
            try clear hx482_0
            try clear hx482_1
            try clear p2
            try clear p4
            try clear p48
            try clear p482
            try clear p6
            try clear q4
            try clear q48
            try clear q482
            obtain ⟨kq, x91_62, rfl, HA, HJ62, HO_6, HO_9, HO_476000, HO_476001, HO_476002, BK475, HB⟩ := hcut
            cases kq with
            | zero => exact absurd HA.out (by simp [laws_FnPlans.j3])
            | succ kj62 =>
             have H := HA.out
             clear HA
             simp only [laws_FnPlans.j3] at H
             by_cases c68 : x91_62 = true
             ·subst c68
              have H1 : (some false) = some r := by rw [if_pos rfl] at H; exact H
              clear H
              have H := H1
              clear H1
              obtain rfl := Option.some.inj H
              go_wp2
              go_ret
              exact ⟨by first | rfl | (simp [errW_none, errW_some] <;> rfl) | (simp [*, errW_none, errW_some] <;> rfl) | (simp [Int.tdiv_eq_ediv_of_nonneg, *]; done), by repeat (first | (with_reducible first | exact HB.out | apply below_alloc | apply pw_below_drewN | apply below_drew1 | refine below_set ?_ GE475.out) | exact HB.out)⟩
             ·replace c68 := Bool.eq_false_iff.mpr c68
              subst c68
              have H1 : (laws_FnPlans.l1 kj62 t476 t486 0 t464 t467 t470 t473 t474) = some r := by rw [if_neg (show ¬ (false = true) by decide)] at H; exact H
              clear H
              have H := H1
              clear H1
              have H' := Aside0.mk H
              clear H
              go_wp2
              go_loopg [15] kj62 (fun kq v15 w' => ∃ (x15_5 : Int), v15 = .int .i64 x15_5 ∧ Aside0 (laws_FnPlans.l1 kq t476 t486 x15_5 t464 t467 t470 t473 t474 = some r) ∧ Aside0 (kq ≤ kj62) ∧ Aside0 (Kd.S k49 49 w' w.heap.size (fun k_ => some k_ ≠ ((.slice Ao65 t486.length co65) : Value).ownBlock ∧ some k_ ≠ ((.slice Ao11 t467.length co11) : Value).ownBlock ∧ some k_ ≠ ((.slice Ao12 t470.length co12) : Value).ownBlock) (.slice Ao24 t476.length co24) t476) ∧ Aside0 (Kd.S k49 49 w' w.heap.size (fun k_ => some k_ ≠ ((.slice Ao24 t476.length co24) : Value).ownBlock ∧ some k_ ≠ ((.slice Ao11 t467.length co11) : Value).ownBlock ∧ some k_ ≠ ((.slice Ao12 t470.length co12) : Value).ownBlock) (.slice Ao65 t486.length co65) t486) ∧ Aside0 (Kd.R k34 34 w' w.heap.size (fun _ => True) (.slice Ao9 t464.length co9) t464) ∧ Aside0 (Kd.R (Kd.int .i64) 2 w' w.heap.size (fun k_ => some k_ ≠ ((.slice Ao12 t470.length co12) : Value).ownBlock) (.slice Ao11 t467.length co11) t467) ∧ Aside0 (Kd.R (Kd.int .i64) 2 w' w.heap.size (fun k_ => some k_ ≠ ((.slice Ao11 t467.length co11) : Value).ownBlock) (.slice Ao12 t470.length co12) t470) ∧ Aside0 (w'.heap[gb475]? = some (.cells #[(.slice Ao9 t464.length co9), (.slice Ao11 t467.length co11), (.slice Ao12 t470.length co12), .int .i64 t473, .int .i64 t474] 27 (0, 0))) ∧ Aside0 (Below w.heap.size w w'))
              case atStart => exact ⟨(0), (by first | rfl | (simp; done) | (simp [*]; done) | (simp [Int.tdiv_eq_ediv_of_nonneg, *]; done)), H', ⟨Nat.le_refl _⟩, ⟨by (with_reducible repeat (first | apply Kd.S_alloc | apply Kd.S_drewN | apply Kd.S_drew)); exact HO_6.out⟩, ⟨by (with_reducible repeat (first | apply Kd.S_alloc | apply Kd.S_drewN | apply Kd.S_drew)); exact HO_9.out⟩, ⟨by (with_reducible repeat (first | apply Kd.R_alloc | apply Kd.R_drewN | apply Kd.R_drew)); exact HO_476000.out⟩, ⟨by (with_reducible repeat (first | apply Kd.R_alloc | apply Kd.R_drewN | apply Kd.R_drew)); exact HO_476001.out⟩, ⟨by (with_reducible repeat (first | apply Kd.R_alloc | apply Kd.R_drewN | apply Kd.R_drew)); exact HO_476002.out⟩, ⟨by (with_reducible repeat (first | refine blk_drewN ?_ _ | refine blk_drew ?_ | refine blk_alloc ?_ _)); exact BK475.out⟩, ⟨by repeat (first | (with_reducible first | exact HB.out | apply below_alloc | apply pw_below_drewN | apply below_drew1 | refine below_set ?_ GE475.out) | exact HB.out)⟩⟩
              case round =>
               clear H'
               try clear c1
               try clear c2
               try clear p2
               try clear c3
               try clear c4
               try clear p4
               try clear q4
               try clear hx4
               try clear c5
               try clear c6
               try clear p6
               try clear c9
               try clear c10
               try clear c16
               try clear c16b0
               try clear c17
               try clear c17b0
               try clear c18
               try clear c19
               try clear c20
               try clear c30
               try clear c31
               try clear c33
               try clear c35
               try clear c48
               try clear p48
               try clear q48
               try clear hx48
               try clear c50
               try clear c55
               try clear c57
               try clear c61
               try clear c67
               try clear c68
               try clear hcz10_0
               try clear hcz10_1
               try clear hcz10_2
               try clear hcz10_3
               try clear hcz10_4
               try clear hcz25_0
               try clear hcz25_1
               try clear hcz25_2
               try clear hcz25_3
               try clear hcz25_4
               try clear hcz28_0
               try clear hcz28_1
               try clear hcz28_2
               try clear hcz28_3
               try clear hcz28_4
               try clear hcz36_0
               try clear hcz36_1
               try clear hcz36_2
               try clear hcz36_3
               try clear hcz36_4
               try clear hcz39_0
               try clear hcz39_1
               try clear hcz39_2
               try clear hcz39_3
               try clear hcz39_4
               try clear hcz41_0
               try clear hcz41_1
               try clear hcz41_2
               try clear hcz41_3
               try clear hcz41_4
               try clear hcz44_0
               try clear hcz44_1
               try clear hcz44_2
               try clear hcz44_3
               try clear hcz44_4
               try clear hcz46_0
               try clear hcz46_1
               try clear hcz46_2
               try clear hcz46_3
               try clear hcz46_4
               try clear hcz51_0
               try clear hcz51_1
               try clear hcz51_2
               try clear hcz51_3
               try clear hcz51_4
               try clear hcz53_0
               try clear hcz53_1
               try clear hcz53_2
               try clear hcz53_3
               try clear hcz53_4
               try clear hcz59_0
               try clear hcz59_1
               try clear hcz59_2
               try clear hcz59_3
               try clear hcz59_4
               try clear hcz64_0
               try clear hcz64_1
               try clear hcz64_2
               try clear hcz64_3
               try clear hcz64_4
               try clear hfz10_0
               try clear hfz10_1
               try clear hfz10_2
               try clear hfz10_3
               try clear hfz10_4
               try clear hfz25_0
               try clear hfz25_1
               try clear hfz25_2
               try clear hfz25_3
               try clear hfz25_4
               try clear hfz28_0
               try clear hfz28_1
               try clear hfz28_2
               try clear hfz28_3
               try clear hfz28_4
               try clear hfz36_0
               try clear hfz36_1
               try clear hfz36_2
               try clear hfz36_3
               try clear hfz36_4
               try clear hfz39_0
               try clear hfz39_1
               try clear hfz39_2
               try clear hfz39_3
               try clear hfz39_4
               try clear hfz41_0
               try clear hfz41_1
               try clear hfz41_2
               try clear hfz41_3
               try clear hfz41_4
               try clear hfz44_0
               try clear hfz44_1
               try clear hfz44_2
               try clear hfz44_3
               try clear hfz44_4
               try clear hfz46_0
               try clear hfz46_1
               try clear hfz46_2
               try clear hfz46_3
               try clear hfz46_4
               try clear hfz51_0
               try clear hfz51_1
               try clear hfz51_2
               try clear hfz51_3
               try clear hfz51_4
               try clear hfz53_0
               try clear hfz53_1
               try clear hfz53_2
               try clear hfz53_3
               try clear hfz53_4
               try clear hfz59_0
               try clear hfz59_1
               try clear hfz59_2
               try clear hfz59_3
               try clear hfz59_4
               try clear hfz64_0
               try clear hfz64_1
               try clear hfz64_2
               try clear hfz64_3
               try clear hfz64_4
               try clear hx482_0
               try clear hx482_1
               try clear p2
               try clear p4
               try clear p48
               try clear p482
               try clear p6
               try clear q4
               try clear q48
               try clear q482
               obtain ⟨x15_5, rfl, HA, HK5, HO_6, HO_9, HO_476000, HO_476001, HO_476002, BK475, HB⟩ := hrel
               cases gk with
               | zero => exact absurd HA.out (by simp [laws_FnPlans.l1])
               | succ k5 =>
                have H := HA.out
                clear HA
                simp only [laws_FnPlans.l1] at H
                by_cases c69 : x15_5 < (t464.length : Int)
                ·rw [if_pos c69] at H
                 have c69b0 : decide (x15_5 < (t464.length : Int)) = true := decide_eq_true c69
                 clear c69
                 replace H := Option.bind_eq_some_iff.mp H
                 obtain ⟨t498, A700, H⟩ := H
                 replace H : ((laws_r8Count.f k5 t476 x15_5).bind fun t499 => (if t498 > t499 then (some false) else (laws_FnPlans.l1 k5 t476 t486 (wrap64 (x15_5 + 1)) t464 t467 t470 t473 t474))) = some r := H
                 have A70 := Aside0.mk A700
                 clear A700
                 replace H := Option.bind_eq_some_iff.mp H
                 obtain ⟨t499, A710, H⟩ := H
                 replace H : (if t498 > t499 then (some false) else (laws_FnPlans.l1 k5 t476 t486 (wrap64 (x15_5 + 1)) t464 t467 t470 t473 t474)) = some r := H
                 have A71 := Aside0.mk A710
                 clear A710
                 by_cases c72 : t498 > t499
                 ·rw [if_pos c72] at H
                  have c72b0 : decide (t499 < t498) = true := decide_eq_true c72
                  clear c72
                  obtain rfl := Option.some.inj H
                  have hcz73_0 : wr.cell? ⟨gb475, 0, none⟩ = some (.slice Ao9 t464.length co9) := (blk_cell BK475.out 0).trans rfl
                  have hcz73_1 : wr.cell? ⟨gb475, 1, none⟩ = some (.slice Ao11 t467.length co11) := (blk_cell BK475.out 1).trans rfl
                  have hcz73_2 : wr.cell? ⟨gb475, 2, none⟩ = some (.slice Ao12 t470.length co12) := (blk_cell BK475.out 2).trans rfl
                  have hcz73_3 : wr.cell? ⟨gb475, 3, none⟩ = some (.int .i64 t473) := (blk_cell BK475.out 3).trans rfl
                  have hcz73_4 : wr.cell? ⟨gb475, 4, none⟩ = some (.int .i64 t474) := (blk_cell BK475.out 4).trans rfl
                  have hfz73_0 := blk_frozen BK475.out 0
                  have hfz73_1 := blk_frozen BK475.out 1
                  have hfz73_2 := blk_frozen BK475.out 2
                  have hfz73_3 := blk_frozen BK475.out 3
                  have hfz73_4 := blk_frozen BK475.out 4
                  go_wp2_with (first | ((with_reducible refine gate_callee (f := 22) rfl ?_); refine goesL_ (some 101) rfl rfl Try.func22 (by kernel_rfl) rfl #[.slice Ao65 t486.length co65, .int .i64 x15_5] rfl (by (try simp only [List.map_toArray, List.map_cons, List.map_nil]); first | done | rfl | (simp only [List.length_drop, List.length_take]; rfl)) ?_; (with_reducible refine (laws_r8Count.calls k5 _ _ t486 x15_5 t498 _ ?side1 ?side2 A70.out).mono ?_); (case side1 => repeat (first | exact (Kd.S_reads' HO_9.out).2.2 | (with_reducible refine Kd.C_alloc ?_ _) | (with_reducible refine Kd.C_drewN ?_ _) | (with_reducible refine Kd.C_drew ?_))); (case side2 => exact (Kd.S_reads' HO_9.out).2.1); rintro e w' ⟨rfl, ⟨nd, rfl⟩⟩; refine ⟨_, rfl, ?_⟩) | ((with_reducible refine gate_callee (f := 22) rfl ?_); refine goesL_ (some 104) rfl rfl Try.func22 (by kernel_rfl) rfl #[.slice Ao24 t476.length co24, .int .i64 x15_5] rfl (by (try simp only [List.map_toArray, List.map_cons, List.map_nil]); first | done | rfl | (simp only [List.length_drop, List.length_take]; rfl)) ?_; (with_reducible refine (laws_r8Count.calls k5 _ _ t476 x15_5 t499 _ ?side1 ?side2 A71.out).mono ?_); (case side1 => repeat (first | exact (Kd.S_reads' HO_6.out).2.2 | (with_reducible refine Kd.C_alloc ?_ _) | (with_reducible refine Kd.C_drewN ?_ _) | (with_reducible refine Kd.C_drew ?_))); (case side2 => exact (Kd.S_reads' HO_6.out).2.1); rintro e w' ⟨rfl, ⟨nd, rfl⟩⟩; refine ⟨_, rfl, ?_⟩))
                  go_ret
                  exact ⟨by first | rfl | (simp [errW_none, errW_some] <;> rfl) | (simp [*, errW_none, errW_some] <;> rfl) | (simp [Int.tdiv_eq_ediv_of_nonneg, *]; done), by repeat (first | (with_reducible first | exact HB.out | apply below_alloc | apply pw_below_drewN | apply below_drew1 | refine below_set ?_ GE475.out) | exact HB.out)⟩
                 ·rw [if_neg c72] at H
                  have c72b0 : decide (t499 < t498) = false := decide_eq_false c72
                  clear c72
                  have H' := Aside0.mk H
                  clear H
                  have hcz74_0 : wr.cell? ⟨gb475, 0, none⟩ = some (.slice Ao9 t464.length co9) := (blk_cell BK475.out 0).trans rfl
                  have hcz74_1 : wr.cell? ⟨gb475, 1, none⟩ = some (.slice Ao11 t467.length co11) := (blk_cell BK475.out 1).trans rfl
                  have hcz74_2 : wr.cell? ⟨gb475, 2, none⟩ = some (.slice Ao12 t470.length co12) := (blk_cell BK475.out 2).trans rfl
                  have hcz74_3 : wr.cell? ⟨gb475, 3, none⟩ = some (.int .i64 t473) := (blk_cell BK475.out 3).trans rfl
                  have hcz74_4 : wr.cell? ⟨gb475, 4, none⟩ = some (.int .i64 t474) := (blk_cell BK475.out 4).trans rfl
                  have hfz74_0 := blk_frozen BK475.out 0
                  have hfz74_1 := blk_frozen BK475.out 1
                  have hfz74_2 := blk_frozen BK475.out 2
                  have hfz74_3 := blk_frozen BK475.out 3
                  have hfz74_4 := blk_frozen BK475.out 4
                  go_wp2_with (first | ((with_reducible refine gate_callee (f := 22) rfl ?_); refine goesL_ (some 101) rfl rfl Try.func22 (by kernel_rfl) rfl #[.slice Ao65 t486.length co65, .int .i64 x15_5] rfl (by (try simp only [List.map_toArray, List.map_cons, List.map_nil]); first | done | rfl | (simp only [List.length_drop, List.length_take]; rfl)) ?_; (with_reducible refine (laws_r8Count.calls k5 _ _ t486 x15_5 t498 _ ?side1 ?side2 A70.out).mono ?_); (case side1 => repeat (first | exact (Kd.S_reads' HO_9.out).2.2 | (with_reducible refine Kd.C_alloc ?_ _) | (with_reducible refine Kd.C_drewN ?_ _) | (with_reducible refine Kd.C_drew ?_))); (case side2 => exact (Kd.S_reads' HO_9.out).2.1); rintro e w' ⟨rfl, ⟨nd, rfl⟩⟩; refine ⟨_, rfl, ?_⟩) | ((with_reducible refine gate_callee (f := 22) rfl ?_); refine goesL_ (some 104) rfl rfl Try.func22 (by kernel_rfl) rfl #[.slice Ao24 t476.length co24, .int .i64 x15_5] rfl (by (try simp only [List.map_toArray, List.map_cons, List.map_nil]); first | done | rfl | (simp only [List.length_drop, List.length_take]; rfl)) ?_; (with_reducible refine (laws_r8Count.calls k5 _ _ t476 x15_5 t499 _ ?side1 ?side2 A71.out).mono ?_); (case side1 => repeat (first | exact (Kd.S_reads' HO_6.out).2.2 | (with_reducible refine Kd.C_alloc ?_ _) | (with_reducible refine Kd.C_drewN ?_ _) | (with_reducible refine Kd.C_drew ?_))); (case side2 => exact (Kd.S_reads' HO_6.out).2.1); rintro e w' ⟨rfl, ⟨nd, rfl⟩⟩; refine ⟨_, rfl, ?_⟩))
                  go_roundg k5
                  case measure => have := HK1.out; have := HJ22.out; have := HJ55.out; have := HJ62.out; have := HK5.out; omega
                  case rel => exact ⟨(wrap64 (x15_5 + 1)), (by first | rfl | (simp; done) | (simp [*]; done) | (simp [Int.tdiv_eq_ediv_of_nonneg, *]; done)), H', ⟨by have := HK1.out; have := HJ22.out; have := HJ55.out; have := HJ62.out; have := HK5.out; omega⟩, ⟨by (with_reducible repeat (first | apply Kd.S_alloc | apply Kd.S_drewN | apply Kd.S_drew)); exact HO_6.out⟩, ⟨by (with_reducible repeat (first | apply Kd.S_alloc | apply Kd.S_drewN | apply Kd.S_drew)); exact HO_9.out⟩, ⟨by (with_reducible repeat (first | apply Kd.R_alloc | apply Kd.R_drewN | apply Kd.R_drew)); exact HO_476000.out⟩, ⟨by (with_reducible repeat (first | apply Kd.R_alloc | apply Kd.R_drewN | apply Kd.R_drew)); exact HO_476001.out⟩, ⟨by (with_reducible repeat (first | apply Kd.R_alloc | apply Kd.R_drewN | apply Kd.R_drew)); exact HO_476002.out⟩, ⟨by (with_reducible repeat (first | refine blk_drewN ?_ _ | refine blk_drew ?_ | refine blk_alloc ?_ _)); exact BK475.out⟩, ⟨by repeat (first | (with_reducible first | exact HB.out | apply below_alloc | apply pw_below_drewN | apply below_drew1 | refine below_set ?_ GE475.out) | exact HB.out)⟩⟩
                ·rw [if_neg c69] at H
                 have c69b0 : decide (x15_5 < (t464.length : Int)) = false := decide_eq_false c69
                 clear c69
                 obtain rfl := Option.some.inj H
                 have hcz75_0 : wr.cell? ⟨gb475, 0, none⟩ = some (.slice Ao9 t464.length co9) := (blk_cell BK475.out 0).trans rfl
                 have hcz75_1 : wr.cell? ⟨gb475, 1, none⟩ = some (.slice Ao11 t467.length co11) := (blk_cell BK475.out 1).trans rfl
                 have hcz75_2 : wr.cell? ⟨gb475, 2, none⟩ = some (.slice Ao12 t470.length co12) := (blk_cell BK475.out 2).trans rfl
                 have hcz75_3 : wr.cell? ⟨gb475, 3, none⟩ = some (.int .i64 t473) := (blk_cell BK475.out 3).trans rfl
                 have hcz75_4 : wr.cell? ⟨gb475, 4, none⟩ = some (.int .i64 t474) := (blk_cell BK475.out 4).trans rfl
                 have hfz75_0 := blk_frozen BK475.out 0
                 have hfz75_1 := blk_frozen BK475.out 1
                 have hfz75_2 := blk_frozen BK475.out 2
                 have hfz75_3 := blk_frozen BK475.out 3
                 have hfz75_4 := blk_frozen BK475.out 4
                 go_wp2
                 go_ret
                 exact ⟨by first | rfl | (simp [errW_none, errW_some] <;> rfl) | (simp [*, errW_none, errW_some] <;> rfl) | (simp [Int.tdiv_eq_ediv_of_nonneg, *]; done), by repeat (first | (with_reducible first | exact HB.out | apply below_alloc | apply pw_below_drewN | apply below_drew1 | refine below_set ?_ GE475.out) | exact HB.out)⟩

/-- THE ONE PURE STATEMENT of laws_FnPlans: yours. -/
def laws_FnPlans.Pure : Prop := ∀ (l0 : List Int) (l1 : List Int), l0.length ≤ maxLen → l0.length * 1 ≤ 140737488351232 → (∀ x ∈ l0, (Lit.int .u8 x).wf = true) → l1.length ≤ maxLen → l1.length * 1 ≤ 140737488351232 → (∀ x ∈ l1, (Lit.int .u8 x).wf = true) → ∃ k, laws_FnPlans.f k l0 l1 = some true
theorem laws_FnPlans.walk (P : laws_FnPlans.Pure) (a0 : Option Addr) (len0 cap0 : Nat) (z0 : List Int) (a1 : Option Addr) (len1 cap1 : Nat) (z1 : List Int) (w : World) (w0 : (a0 = none ∧ len0 = 0 ∧ cap0 = 0 ∧ z0 = []) ∨ ∃ x, a0 = some x ∧ len0 ≤ cap0 ∧ cap0 ≤ maxLen ∧ z0.length = cap0 ∧ (∀ i, i < z0.length → w.cell? (x.add i) = some (.int .u8 (z0.getD i 0))) ∧ ∀ n ∈ z0, (Lit.int .u8 n).wf = true) (y0 : len0 * 1 ≤ 140737488351232) (w1 : (a1 = none ∧ len1 = 0 ∧ cap1 = 0 ∧ z1 = []) ∨ ∃ x, a1 = some x ∧ len1 ≤ cap1 ∧ cap1 ≤ maxLen ∧ z1.length = cap1 ∧ (∀ i, i < z1.length → w.cell? (x.add i) = some (.int .u8 (z1.getD i 0))) ∧ ∀ n ∈ z1, (Lit.int .u8 n).wf = true) (y1 : len1 * 1 ≤ 140737488351232) :
  Calls Try.prog 5 #[.slice a0 len0 cap0, .slice a1 len1 cap1] w fun e w' => e = .returned (.bool true) ∧ Below w.heap.size w w' := by
 obtain ⟨l0, rfl, hr0, hm0, hw0, hc0⟩ := ReadsInt.ofRowC w0
 obtain ⟨l1, rfl, hr1, hm1, hw1, hc1⟩ := ReadsInt.ofRowC w1
 obtain ⟨k, h⟩ := P l0 l1 hm0 y0 hw0 hm1 y1 hw1
 refine (laws_FnPlans.calls k _ _ l0 _ _ l1 true w (Kd.C_of_reads (d := (0 : Int)) (h1 := fun _ => rfl) hr0) hc0 (Kd.C_of_reads (d := (0 : Int)) (h1 := fun _ => rfl) hr1) hc1 h).mono ?_
 rintro e w' ⟨rfl, hd⟩
 exact ⟨rfl, hd⟩

end Go.Proofs.Ytfcadpkhmkjibaa.P
/- A test at each of some numbers that follow one another. -/
namespace Go.Proofs.Ytfcadpkhmkjibaa.P
open Go.RowKit Go.Proofs.Ytfcadpkhmkjibaa.P Go.Proofs.YtfcadpkhmkjibaaW.PrintWords Go.Proofs.YtfcadpkhmkjibaaW.PrintLast Go.Proofs.YtfcadpkhmkjibaaW.PrintMore
set_option linter.unusedVariables false
set_option linter.unusedSimpArgs false
def upTo (p : Nat → Bool) : Nat → Nat → Bool
  | 0, _ => true
  | d + 1, i => p i && upTo p d (i + 1)
theorem upTo_iff (p : Nat → Bool) : ∀ (d i : Nat), upTo p d i = true ↔ ∀ j, i ≤ j → j < i + d → p j = true := by
  intro d
  induction d with
  | zero => intro i; simp [upTo]; intro j h1 h2; omega
  | succ d ih =>
    intro i
    simp only [upTo, Bool.and_eq_true, ih]
    constructor
    · intro ⟨h0, h⟩ j h1 h2
      by_cases e : i = j
      · rw [← e]; exact h0
      · exact h j (by omega) (by omega)
    · intro h
      exact ⟨h i (Nat.le_refl _) (by omega), fun j h1 h2 => h j (by omega) (by omega)⟩

end Go.Proofs.Ytfcadpkhmkjibaa.P
/- Numbers in a range that rise. -/
namespace Go.Proofs.Ytfcadpkhmkjibaa.P
open Go.RowKit Go.Proofs.Ytfcadpkhmkjibaa.P Go.Proofs.YtfcadpkhmkjibaaW.PrintWords Go.Proofs.YtfcadpkhmkjibaaW.PrintLast Go.Proofs.YtfcadpkhmkjibaaW.PrintMore
set_option linter.unusedVariables false
set_option linter.unusedSimpArgs false
def riseOk (l : List Int) (lo hi : Int) (i : Nat) : Bool := decide (lo ≤ rd l i ∧ rd l i ≤ hi) && (decide (i = 0) || decide (rd l ((i - 1 : Nat) : Int) < rd l i))
def rises (l : List Int) (lo hi : Int) : Bool := upTo (riseOk l lo hi) l.length 0

end Go.Proofs.Ytfcadpkhmkjibaa.P
/- What is asked of a head. -/
namespace Go.Proofs.Ytfcadpkhmkjibaa.P
open Go.RowKit Go.Proofs.Ytfcadpkhmkjibaa.P Go.Proofs.YtfcadpkhmkjibaaW.PrintWords Go.Proofs.YtfcadpkhmkjibaaW.PrintLast Go.Proofs.YtfcadpkhmkjibaaW.PrintMore
set_option linter.unusedVariables false
set_option linter.unusedSimpArgs false
def cuOk (cs : List S34) (i : Nat) : Bool := decide (1 ≤ (rd_T34 cs i).f0 ∧ (rd_T34 cs i).f0 ≤ 100) && decide (1 ≤ (rd_T34 cs i).f1 ∧ (rd_T34 cs i).f1 ≤ 1000000)
def hdOk (cs : List S34) (fc st : List Int) (x y : Int) : Bool :=
  decide (1 ≤ (cs.length : Int) ∧ (cs.length : Int) ≤ 5) && (decide ((fc.length : Int) ≤ 60) && (decide ((st.length : Int) ≤ 8) && (rises st 0 (wrap64 ((fc.length : Int) - 1)) && (upTo (cuOk cs) cs.length 0 && (impl_areWithin.all 0 100 fc && (decide (0 ≤ x ∧ x ≤ 10000) && decide (0 ≤ y ∧ y ≤ 10000)))))))

end Go.Proofs.Ytfcadpkhmkjibaa.P
/- How far a cutter lasts, plainly. -/
namespace Go.Proofs.Ytfcadpkhmkjibaa.P
open Go.RowKit Go.Proofs.Ytfcadpkhmkjibaa.P Go.Proofs.YtfcadpkhmkjibaaW.PrintWords Go.Proofs.YtfcadpkhmkjibaaW.PrintLast Go.Proofs.YtfcadpkhmkjibaaW.PrintMore
set_option linter.unusedVariables false
set_option linter.unusedSimpArgs false
def reachGo (ax lim : Int) (fc : List Int) : Nat → Nat → Int → Nat
  | 0, i, _ => i
  | d + 1, i, s => if wrap64 (s + wrap64 (ax * rd fc (i : Int))) > lim then i else reachGo ax lim fc d (i + 1) (wrap64 (s + wrap64 (ax * rd fc (i : Int))))
def reachOf (cs : List S34) (fc : List Int) (a b : Nat) (s : Int) : Nat := reachGo (rd_T34 cs (a : Int)).f0 (rd_T34 cs (a : Int)).f1 fc (fc.length - b) b s
end Go.Proofs.Ytfcadpkhmkjibaa.P
/- The stints of a cutter, plainly. -/
namespace Go.Proofs.Ytfcadpkhmkjibaa.P
open Go.RowKit Go.Proofs.Ytfcadpkhmkjibaa.P Go.Proofs.YtfcadpkhmkjibaaW.PrintWords Go.Proofs.YtfcadpkhmkjibaaW.PrintLast Go.Proofs.YtfcadpkhmkjibaaW.PrintMore
set_option linter.unusedVariables false
set_option linter.unusedSimpArgs false
def nextOf (st : List Int) (b t : Int) : Nat → Nat → Int → Int
  | 0, _, c => c
  | d + 1, i, c => nextOf st b t d (i + 1) (if rd st (i : Int) > b then (if rd st (i : Int) ≤ t then rd st (i : Int) else c) else c)
def stintsGo (cs : List S34) (fc st : List Int) (a : Nat) : Nat → Nat → List (List Int) → List (List Int) × Bool
  | 0, _, _ => ([], false)
  | d + 1, b, acc => if ((reachOf cs fc a b 0 : Nat) : Int) = (fc.length : Int) then (acc, true) else
      if nextOf st b (reachOf cs fc a b 0 : Nat) st.length 0 (-1) < 0 then ([], false) else
      stintsGo cs fc st a d (nextOf st b (reachOf cs fc a b 0 : Nat) st.length 0 (-1)).toNat (acc ++ [[(b : Int), ((reachOf cs fc a b 0 : Nat) : Int)]])
def stints (cs : List S34) (fc st : List Int) (a : Nat) : List (List Int) × Bool := stintsGo cs fc st a (fc.length + 1) 0 []
end Go.Proofs.Ytfcadpkhmkjibaa.P
/- The bound on a head's cost, plainly. -/
namespace Go.Proofs.Ytfcadpkhmkjibaa.P
open Go.RowKit Go.Proofs.Ytfcadpkhmkjibaa.P Go.Proofs.YtfcadpkhmkjibaaW.PrintWords Go.Proofs.YtfcadpkhmkjibaaW.PrintLast Go.Proofs.YtfcadpkhmkjibaaW.PrintMore
set_option linter.unusedVariables false
set_option linter.unusedSimpArgs false
theorem hdOk_in {cs : List S34} {fc st : List Int} {x y : Int} (h : hdOk cs fc st x y = true) : cs.length ≤ 5 ∧ fc.length ≤ 60 ∧ st.length ≤ 8 ∧ (0 ≤ x ∧ x ≤ 10000) ∧ (0 ≤ y ∧ y ≤ 10000) := by
  unfold hdOk at h
  simp only [Bool.and_eq_true, decide_eq_true_eq] at h
  obtain ⟨h1, h2, h3, _, _, _, h4, h5⟩ := h
  exact ⟨by omega, by omega, by omega, h4, h5⟩

end Go.Proofs.Ytfcadpkhmkjibaa.P
/- Plain facts on numbers and lists that every loop's lemma uses. -/
namespace Go.Proofs.Ytfcadpkhmkjibaa.P
open Go.RowKit Go.Proofs.Ytfcadpkhmkjibaa.P Go.Proofs.YtfcadpkhmkjibaaW.PrintWords Go.Proofs.YtfcadpkhmkjibaaW.PrintLast Go.Proofs.YtfcadpkhmkjibaaW.PrintMore
set_option linter.unusedVariables false
set_option linter.unusedSimpArgs false
theorem w64 (x : Int) (h1 : -9223372036854775808 ≤ x) (h2 : x ≤ 9223372036854775807) : wrap64 x = x := by unfold wrap64; omega
theorem w64s (i : Nat) (h : i < 9223372036854775807) : wrap64 ((i : Int) + 1) = ((i + 1 : Nat) : Int) := by unfold wrap64; omega
theorem wfu8 {x : Int} (h : (Lit.int .u8 x).wf = true) : 0 ≤ x ∧ x ≤ 255 := by
  simp only [Lit.wf, IntKind.min, IntKind.max, IntKind.signed, IntKind.bits, Bool.and_eq_true, decide_eq_true_eq] at h
  simp at h
  omega
theorem rd_at (l : List Int) (i : Nat) (h : i < l.length) : rd l (i : Int) = l[i] := by
  unfold rd
  rw [Int.toNat_natCast, List.getD_eq_getElem?_getD, List.getElem?_eq_getElem h]
  rfl
theorem drop_at (l : List Int) (i : Nat) (h : i < l.length) : l.drop i = rd l (i : Int) :: l.drop (i + 1) := by
  rw [rd_at l i h, List.drop_eq_getElem_cons h]
theorem bind_some_ {α β : Type} (a : α) (f : α → Option β) : (some a).bind f = f a := rfl
theorem ite_tt (b r : Bool) : (if b = true then some r else some false) = some (b && r) := by cases b <;> rfl
theorem ite_ff (p : Prop) [Decidable p] (r : Bool) : (if p then some false else some r) = some (!decide p && r) := by by_cases h : p <;> simp [h]
theorem ite_pp (p : Prop) [Decidable p] (r : Bool) : (if p then some r else some false) = some (decide p && r) := by by_cases h : p <;> simp [h]
theorem not_ge_dec (a b : Int) : (!decide (a ≥ b)) = decide (a < b) := by by_cases h : a < b <;> simp [h] <;> omega

end Go.Proofs.Ytfcadpkhmkjibaa.P
/- What is asked of a plan. -/
namespace Go.Proofs.Ytfcadpkhmkjibaa.P
open Go.RowKit Go.Proofs.Ytfcadpkhmkjibaa.P Go.Proofs.YtfcadpkhmkjibaaW.PrintWords Go.Proofs.YtfcadpkhmkjibaaW.PrintLast Go.Proofs.YtfcadpkhmkjibaaW.PrintMore
set_option linter.unusedVariables false
set_option linter.unusedSimpArgs false
def stopOk (n : Nat) (st : List Int) (p : List S49) (i : Nat) : Bool :=
  decide ((rd_T49 p (i : Int)).f0 ∈ st) && (!decide (((rd_T49 p (i : Int)).f1.length : Int) = 0) && (rises (rd_T49 p (i : Int)).f1 0 (wrap64 ((n : Int) - 1)) && (decide (i = 0) || decide ((rd_T49 p ((i - 1 : Nat) : Int)).f0 < (rd_T49 p (i : Int)).f0))))
def planOk (n : Nat) (st : List Int) (p : List S49) : Bool := upTo (stopOk n st p) p.length 0
theorem ite_fc (p : Prop) [Decidable p] (o : Option Bool) (b : Bool) (h : o = some b) : (if p then some false else o) = some (!decide p && b) := by by_cases hp : p <;> simp [hp, h]
theorem ite_tc (c : Bool) (o : Option Bool) (b : Bool) (h : o = some b) : (if c = true then o else some false) = some (c && b) := by cases c <;> simp [h]

end Go.Proofs.Ytfcadpkhmkjibaa.P
/- What a plan costs, plainly. -/
namespace Go.Proofs.Ytfcadpkhmkjibaa.P
open Go.RowKit Go.Proofs.Ytfcadpkhmkjibaa.P Go.Proofs.YtfcadpkhmkjibaaW.PrintWords Go.Proofs.YtfcadpkhmkjibaaW.PrintLast Go.Proofs.YtfcadpkhmkjibaaW.PrintMore
set_option linter.unusedVariables false
set_option linter.unusedSimpArgs false
def costGo (x y : Int) : List S49 → Int → Int
  | [], s => s
  | t :: l, s => costGo x y l (wrap64 (s + wrap64 (x + wrap64 (y * (t.f1.length : Int)))))
def costP (cs : List S34) (fc st : List Int) (x y : Int) (p : List S49) : Int × Bool := if (hdOk cs fc st x y && planOk cs.length st p) = true then (costGo x y p 0, true) else (0, false)

end Go.Proofs.Ytfcadpkhmkjibaa.P
namespace Go.Proofs.Ytfcadpkhmkjibaa.P
open Go.RowKit Go.Proofs.YtfcadpkhmkjibaaW.PrintWords Go.Proofs.YtfcadpkhmkjibaaW.PrintLast Go.Proofs.YtfcadpkhmkjibaaW.PrintMore
attribute [local go_sem] max2_int min2_int max_two min_two max_three min_three max_four min_four   -- for this text's walks alone
set_option linter.unusedVariables false
set_option linter.unusedSimpArgs false

def spec_l00In.f (a0 : Int) (a1 : Int) (a2 : Int) : Option (Bool) := if a0 ≥ a1 then (some (decide (a0 ≤ a2))) else (some false)
end Go.Proofs.Ytfcadpkhmkjibaa.P
namespace Go.Proofs.Ytfcadpkhmkjibaa.P
open Go.RowKit Go.Proofs.YtfcadpkhmkjibaaW.PrintWords Go.Proofs.YtfcadpkhmkjibaaW.PrintLast Go.Proofs.YtfcadpkhmkjibaaW.PrintMore
attribute [local go_sem] max2_int min2_int max_two min_two max_three min_three max_four min_four   -- for this text's walks alone
set_option linter.unusedVariables false
set_option linter.unusedSimpArgs false

mutual
def spec_l08Is.j0 : Nat → Bool → List (S34) → List Int → List Int → Int → Int → Option (Bool)
 | 0, _, _, _, _, _, _ => none
 | k + 1, x39, x1000, x1001, x1002, x1003, x1004 => if x39 = true then (some false) else (spec_l08Is.l0 k 0 x1000 x1001 x1002 x1003 x1004)
def spec_l08Is.l0 : Nat → Int → List (S34) → List Int → List Int → Int → Int → Option (Bool)
 | 0, _, _, _, _, _, _ => none
 | k + 1, x4, x1000, x1001, x1002, x1003, x1004 => if x4 < (x1000.length : Int) then (if 0 ≤ x4 then ((spec_l00In.f ((rd_T34 x1000 x4).f0) 1 100).bind fun t515 => (if t515 = true then ((spec_l00In.f ((rd_T34 x1000 x4).f1) 1 1000000).bind fun t517 => (if t517 = true then (spec_l08Is.l0 k (wrap64 (x4 + 1)) x1000 x1001 x1002 x1003 x1004) else (some false))) else (some false))) else (none)) else (spec_l08Is.l1 k 0 x1000 x1001 x1002 x1003 x1004)
def spec_l08Is.l1 : Nat → Int → List (S34) → List Int → List Int → Int → Int → Option (Bool)
 | 0, _, _, _, _, _, _ => none
 | k + 1, x5, x1000, x1001, x1002, x1003, x1004 => if x5 < (x1001.length : Int) then (if 0 ≤ x5 then ((spec_l00In.f (rd x1001 x5) 0 100).bind fun t519 => (if t519 = true then (spec_l08Is.l1 k (wrap64 (x5 + 1)) x1000 x1001 x1002 x1003 x1004) else (some false))) else (none)) else ((spec_l00In.f x1003 0 10000).bind fun t520 => (if t520 = true then ((spec_l00In.f x1004 0 10000).bind fun t521 => (some t521)) else (some false)))
end
def spec_l00Has.l0 : Nat → List Int → Int → Int → Option (Bool)
 | 0, _, _, _ => none
 | k + 1, x0, x1, x5 => if x5 < (x0.length : Int) then (if 0 ≤ x5 then (if (rd x0 x5) = x1 then (some true) else (spec_l00Has.l0 k x0 x1 (wrap64 (x5 + 1)))) else (none)) else (some false)
def spec_l00Has.f (k : Nat) (l0 : List Int) (a1 : Int) : Option (Bool) := spec_l00Has.l0 k l0 a1 0
end Go.Proofs.Ytfcadpkhmkjibaa.P
namespace Go.Proofs.Ytfcadpkhmkjibaa.P
open Go.RowKit Go.Proofs.YtfcadpkhmkjibaaW.PrintWords Go.Proofs.YtfcadpkhmkjibaaW.PrintLast Go.Proofs.YtfcadpkhmkjibaaW.PrintMore
attribute [local go_sem] max2_int min2_int max_two min_two max_three min_three max_four min_four   -- for this text's walks alone
set_option linter.unusedVariables false
set_option linter.unusedSimpArgs false

def spec_l08Changes.l0 : Nat → List (S49) → Int → Int → Int → Option (Bool)
 | 0, _, _, _, _ => none
 | k + 1, x0, x1, x2, x7 => if x7 < (x0.length : Int) then (if 0 ≤ x7 then (if ((rd_T49 x0 x7).f0) = x2 then ((spec_l00Has.f k ((rd_T49 x0 x7).f1) x1).bind fun t537 => (if t537 = true then (some true) else (spec_l08Changes.l0 k x0 x1 x2 (wrap64 (x7 + 1))))) else (spec_l08Changes.l0 k x0 x1 x2 (wrap64 (x7 + 1)))) else (none)) else (some false)
def spec_l08Changes.f (k : Nat) (l0 : List (S49)) (a1 : Int) (a2 : Int) : Option (Bool) := spec_l08Changes.l0 k l0 a1 a2 0
def spec_l08Worn.l0 : Nat → List (S49) → Int → Int → Int → Int → List (S34) → List Int → List Int → Int → Int → Option (Int)
 | 0, _, _, _, _, _, _, _, _, _, _ => none
 | k + 1, x1, x2, x3, x9, x10, x1000, x1001, x1002, x1003, x1004 => if x10 ≤ x3 then ((spec_l08Changes.f k x1 x2 x10).bind fun t538 => (if t538 = true then (if x10 < x3 then (if 0 ≤ x2 then (if x2 < (x1000.length : Int) then (if 0 ≤ x10 then (if x10 < (x1001.length : Int) then (spec_l08Worn.l0 k x1 x2 x3 (wrap64 (0 + (wrap64 (((rd_T34 x1000 x2).f0) * (rd x1001 x10))))) (wrap64 (x10 + 1)) x1000 x1001 x1002 x1003 x1004) else (none)) else (none)) else (none)) else (none)) else (spec_l08Worn.l0 k x1 x2 x3 0 (wrap64 (x10 + 1)) x1000 x1001 x1002 x1003 x1004)) else (if x10 < x3 then (if 0 ≤ x2 then (if x2 < (x1000.length : Int) then (if 0 ≤ x10 then (if x10 < (x1001.length : Int) then (spec_l08Worn.l0 k x1 x2 x3 (wrap64 (x9 + (wrap64 (((rd_T34 x1000 x2).f0) * (rd x1001 x10))))) (wrap64 (x10 + 1)) x1000 x1001 x1002 x1003 x1004) else (none)) else (none)) else (none)) else (none)) else (spec_l08Worn.l0 k x1 x2 x3 x9 (wrap64 (x10 + 1)) x1000 x1001 x1002 x1003 x1004)))) else (some x9)
def spec_l08Worn.f (k : Nat) (l0_0 : List (S34)) (l0_1 : List Int) (l0_2 : List Int) (a0_3 : Int) (a0_4 : Int) (l1 : List (S49)) (a2 : Int) (a3 : Int) : Option (Int) := spec_l08Worn.l0 k l1 a2 a3 0 0 l0_0 l0_1 l0_2 a0_3 a0_4
end Go.Proofs.Ytfcadpkhmkjibaa.P
/- Two lists of numbers are compared. -/
namespace Go.Proofs.Ytfcadpkhmkjibaa.P
open Go.RowKit Go.Proofs.Ytfcadpkhmkjibaa.P Go.Proofs.YtfcadpkhmkjibaaW.PrintWords Go.Proofs.YtfcadpkhmkjibaaW.PrintLast Go.Proofs.YtfcadpkhmkjibaaW.PrintMore
set_option linter.unusedVariables false
set_option linter.unusedSimpArgs false
end Go.Proofs.Ytfcadpkhmkjibaa.P
/- A list of numbers is copied. -/
namespace Go.Proofs.Ytfcadpkhmkjibaa.P
open Go.RowKit Go.Proofs.Ytfcadpkhmkjibaa.P Go.Proofs.YtfcadpkhmkjibaaW.PrintWords Go.Proofs.YtfcadpkhmkjibaaW.PrintLast Go.Proofs.YtfcadpkhmkjibaaW.PrintMore
set_option linter.unusedVariables false
set_option linter.unusedSimpArgs false
end Go.Proofs.Ytfcadpkhmkjibaa.P
namespace Go.Proofs.Ytfcadpkhmkjibaa.P
open Go.RowKit Go.Proofs.YtfcadpkhmkjibaaW.PrintWords Go.Proofs.YtfcadpkhmkjibaaW.PrintLast Go.Proofs.YtfcadpkhmkjibaaW.PrintMore
attribute [local go_sem] max2_int min2_int max_two min_two max_three min_three max_four min_four   -- for this text's walks alone
set_option linter.unusedVariables false
set_option linter.unusedSimpArgs false

end Go.Proofs.Ytfcadpkhmkjibaa.P
namespace Go.Proofs.Ytfcadpkhmkjibaa.P
open Go.RowKit Go.Proofs.YtfcadpkhmkjibaaW.PrintWords Go.Proofs.YtfcadpkhmkjibaaW.PrintLast Go.Proofs.YtfcadpkhmkjibaaW.PrintMore
attribute [local go_sem] max2_int min2_int max_two min_two max_three min_three max_four min_four   -- for this text's walks alone
set_option linter.unusedVariables false
set_option linter.unusedSimpArgs false

end Go.Proofs.Ytfcadpkhmkjibaa.P
namespace Go.Proofs.Ytfcadpkhmkjibaa.P
open Go.RowKit Go.Proofs.YtfcadpkhmkjibaaW.PrintWords Go.Proofs.YtfcadpkhmkjibaaW.PrintLast Go.Proofs.YtfcadpkhmkjibaaW.PrintMore
attribute [local go_sem] max2_int min2_int max_two min_two max_three min_three max_four min_four   -- for this text's walks alone
set_option linter.unusedVariables false
set_option linter.unusedSimpArgs false

end Go.Proofs.Ytfcadpkhmkjibaa.P
namespace Go.Proofs.Ytfcadpkhmkjibaa.P
open Go.RowKit Go.Proofs.YtfcadpkhmkjibaaW.PrintWords Go.Proofs.YtfcadpkhmkjibaaW.PrintLast Go.Proofs.YtfcadpkhmkjibaaW.PrintMore
attribute [local go_sem] max2_int min2_int max_two min_two max_three min_three max_four min_four   -- for this text's walks alone
set_option linter.unusedVariables false
set_option linter.unusedSimpArgs false

end Go.Proofs.Ytfcadpkhmkjibaa.P
namespace Go.Proofs.Ytfcadpkhmkjibaa.P
open Go.RowKit Go.Proofs.YtfcadpkhmkjibaaW.PrintWords Go.Proofs.YtfcadpkhmkjibaaW.PrintLast Go.Proofs.YtfcadpkhmkjibaaW.PrintMore
attribute [local go_sem] max2_int min2_int max_two min_two max_three min_three max_four min_four   -- for this text's walks alone
set_option linter.unusedVariables false
set_option linter.unusedSimpArgs false

mutual
def spec_WornAt.j0 : Nat → List (S49) → Int → Bool → List (S34) → List Int → List Int → Int → Int → Option (List Int × Bool)
 | 0, _, _, _, _, _, _, _, _ => none
 | k + 1, x1, x2, x24, x544000, x544001, x544002, x544003, x544004 => if x24 = true then (some (([] : List Int), false)) else (spec_WornAt.l0 k x1 x2 (([] : List Int)) 0 x544000 x544001 x544002 x544003 x544004)
def spec_WornAt.l0 : Nat → List (S49) → Int → List Int → Int → List (S34) → List Int → List Int → Int → Int → Option (List Int × Bool)
 | 0, _, _, _, _, _, _, _, _, _ => none
 | k + 1, x1, x2, x8, x9, x544000, x544001, x544002, x544003, x544004 => if x9 < (x544000.length : Int) then ((spec_l08Worn.f k x544000 x544001 x544002 x544003 x544004 x1 x9 x2).bind fun t550 => (if x8.length < 17592186044416 then (spec_WornAt.l0 k x1 x2 (x8 ++ [t550]) (wrap64 (x9 + 1)) x544000 x544001 x544002 x544003 x544004) else (none))) else (some (x8, true))
end
end Go.Proofs.Ytfcadpkhmkjibaa.P
/- A list of the law's own structs that hold lists is copied into the program's, measured, and equal to itself. -/
namespace Go.Proofs.Ytfcadpkhmkjibaa.P
open Go.RowKit Go.Proofs.Ytfcadpkhmkjibaa.P Go.Proofs.YtfcadpkhmkjibaaW.PrintWords Go.Proofs.YtfcadpkhmkjibaaW.PrintLast Go.Proofs.YtfcadpkhmkjibaaW.PrintMore
set_option linter.unusedVariables false
set_option linter.unusedSimpArgs false
theorem rdStop_at (l : List S49) (i : Nat) (h : i < l.length) : rd_T49 l (i : Int) = l[i] := by
  unfold rd_T49
  rw [Int.toNat_natCast, List.getD_eq_getElem?_getD, List.getElem?_eq_getElem h]
  rfl
def shortS (l : List S49) : Prop := l.length ≤ 1048576 ∧ ∀ s ∈ l, s.f1.length ≤ 1048576
theorem shortS_at {l : List S49} (h : shortS l) (i : Nat) (hi : i < l.length) : (rd_T49 l (i : Int)).f1.length ≤ 1048576 := by
  rw [rdStop_at l i hi]
  exact h.2 _ (List.getElem_mem hi)
end Go.Proofs.Ytfcadpkhmkjibaa.P
/- What a plan costs, as the program reckons it. -/
namespace Go.Proofs.Ytfcadpkhmkjibaa.P
open Go.RowKit Go.Proofs.Ytfcadpkhmkjibaa.P Go.Proofs.YtfcadpkhmkjibaaW.PrintWords Go.Proofs.YtfcadpkhmkjibaaW.PrintLast Go.Proofs.YtfcadpkhmkjibaaW.PrintMore
set_option linter.unusedVariables false
set_option linter.unusedSimpArgs false
theorem implCost_l0 (cs : List S34) (fc st : List Int) (x y : Int) (p : List S49) (hb : p.length ≤ 1048576) : ∀ (d k i : Nat) (s : Int), i + d = p.length → d < k → impl_Head_cost.l0 k s p p.length i cs fc st x y = some (costGo x y (p.drop i) s) := by
  intro d
  induction d with
  | zero =>
    intro k i s hi hk
    obtain ⟨k, rfl⟩ : ∃ m, k = m + 1 := ⟨k - 1, by omega⟩
    simp only [impl_Head_cost.l0]
    rw [if_neg (by omega), List.drop_of_length_le (by omega)]
    rfl
  | succ d ih =>
    intro k i s hi hk
    obtain ⟨k, rfl⟩ : ∃ m, k = m + 1 := ⟨k - 1, by omega⟩
    have hlt : i < p.length := by omega
    have hd : p.drop i = rd_T49 p (i : Int) :: p.drop (i + 1) := by rw [rdStop_at p i hlt, List.drop_eq_getElem_cons hlt]
    simp only [impl_Head_cost.l0]
    rw [if_pos (by omega), if_pos (by omega), if_pos (by omega), w64s i (by omega), ih k (i + 1) _ (by omega) (by omega), hd]
    rfl

end Go.Proofs.Ytfcadpkhmkjibaa.P
/- Numbers in a range, as the program asks it of a list. -/
namespace Go.Proofs.Ytfcadpkhmkjibaa.P
open Go.RowKit Go.Proofs.Ytfcadpkhmkjibaa.P Go.Proofs.YtfcadpkhmkjibaaW.PrintWords Go.Proofs.YtfcadpkhmkjibaaW.PrintLast Go.Proofs.YtfcadpkhmkjibaaW.PrintMore
set_option linter.unusedVariables false
set_option linter.unusedSimpArgs false
theorem areWithin2 (a b lo hi : Int) : impl_areWithin.all lo hi [a, b] = (decide (lo ≤ a ∧ a ≤ hi) && decide (lo ≤ b ∧ b ≤ hi)) := by
  simp [impl_areWithin.all]

end Go.Proofs.Ytfcadpkhmkjibaa.P
/- A number lies in a range, as the program asks it. -/
namespace Go.Proofs.Ytfcadpkhmkjibaa.P
open Go.RowKit Go.Proofs.Ytfcadpkhmkjibaa.P Go.Proofs.YtfcadpkhmkjibaaW.PrintWords Go.Proofs.YtfcadpkhmkjibaaW.PrintLast Go.Proofs.YtfcadpkhmkjibaaW.PrintMore
set_option linter.unusedVariables false
set_option linter.unusedSimpArgs false
theorem within_is (a b c : Int) : impl_within.f a b c = some (decide (b ≤ a ∧ a ≤ c)) := by
  unfold impl_within.f
  by_cases h : b ≤ a <;> simp [h]

end Go.Proofs.Ytfcadpkhmkjibaa.P
/- Numbers in a range that rise, as the program asks it. -/
namespace Go.Proofs.Ytfcadpkhmkjibaa.P
open Go.RowKit Go.Proofs.Ytfcadpkhmkjibaa.P Go.Proofs.YtfcadpkhmkjibaaW.PrintWords Go.Proofs.YtfcadpkhmkjibaaW.PrintLast Go.Proofs.YtfcadpkhmkjibaaW.PrintMore
set_option linter.unusedVariables false
set_option linter.unusedSimpArgs false
theorem implRises_loop (l : List Int) (n : Int) (hb : l.length ≤ 9223372036854775806) : ∀ (d k i : Nat), i + d = l.length → d < k → impl_isSet.l0 k l n l l.length i = some (upTo (riseOk l 0 (wrap64 (n - 1))) d i) := by
  intro d
  induction d with
  | zero =>
    intro k i hi' hk
    obtain ⟨k, rfl⟩ : ∃ m, k = m + 1 := ⟨k - 1, by omega⟩
    simp only [impl_isSet.l0]
    rw [if_neg (by omega)]
    rfl
  | succ d ih =>
    intro k i hi' hk
    obtain ⟨k, rfl⟩ : ∃ m, k = m + 1 := ⟨k - 1, by omega⟩
    have hz := ih k (i + 1) (by omega) (by omega)
    simp only [impl_isSet.l0, within_is, bind_some_, upTo, riseOk]
    rw [if_pos (by omega), if_pos (by omega), if_pos (by omega), w64s i (by omega), hz]
    by_cases h : i = 0
    · rw [if_neg (show ¬ (i : Int) > 0 by omega), ite_tt, decide_eq_true h, Bool.true_or, Bool.and_true]
    · have e : wrap64 ((i : Int) - 1) = ((i - 1 : Nat) : Int) := by rw [w64 _ (by omega) (by omega)]; omega
      rw [if_pos (show (i : Int) > 0 by omega), e, if_pos (show (0 : Int) ≤ ((i - 1 : Nat) : Int) by omega), if_pos (show ((i - 1 : Nat) : Int) < (l.length : Int) by omega), ite_ff, ite_tt, not_ge_dec, decide_eq_false h, Bool.false_or, Bool.and_assoc]
theorem implRises_is (k : Nat) (l : List Int) (n : Int) (hb : l.length ≤ 9223372036854775806) (hk : l.length < k) : impl_isSet.f k l n = some (rises l 0 (wrap64 (n - 1))) := by
  unfold impl_isSet.f rises
  exact implRises_loop l n hb l.length k 0 (by omega) hk

end Go.Proofs.Ytfcadpkhmkjibaa.P
/- What the program asks of a head. -/
namespace Go.Proofs.Ytfcadpkhmkjibaa.P
open Go.RowKit Go.Proofs.Ytfcadpkhmkjibaa.P Go.Proofs.YtfcadpkhmkjibaaW.PrintWords Go.Proofs.YtfcadpkhmkjibaaW.PrintLast Go.Proofs.YtfcadpkhmkjibaaW.PrintMore
set_option linter.unusedVariables false
set_option linter.unusedSimpArgs false
theorem implHead_l0 (cs : List S34) (fc st : List Int) (x y : Int) (hc : cs.length ≤ 1048576) (hb : fc.length ≤ 1048576) (hs : st.length ≤ 1048576) : ∀ (d k i : Nat), i + d = cs.length → d + st.length + 1 < k → impl_ValidHead.l0 k cs cs.length i cs fc st x y = some (upTo (cuOk cs) d i && (decide (1 ≤ (cs.length : Int) ∧ (cs.length : Int) ≤ 5) && (decide ((fc.length : Int) ≤ 60) && (impl_areWithin.all 0 100 fc && (decide ((st.length : Int) ≤ 8) && (rises st 0 (wrap64 ((fc.length : Int) - 1)) && (decide (0 ≤ x ∧ x ≤ 10000) && decide (0 ≤ y ∧ y ≤ 10000)))))))) := by
  intro d
  induction d with
  | zero =>
    intro k i hi' hk
    obtain ⟨k, rfl⟩ : ∃ m, k = m + 1 := ⟨k - 1, by omega⟩
    simp only [impl_ValidHead.l0, within_is, impl_areWithin.f, bind_some_, areWithin2]
    rw [if_neg (by omega), implRises_is k st _ (by omega) (by omega)]
    simp only [bind_some_, ite_tt, ite_pp, upTo, Bool.true_and, Bool.decide_eq_true]
  | succ d ih =>
    intro k i hi' hk
    obtain ⟨k, rfl⟩ : ∃ m, k = m + 1 := ⟨k - 1, by omega⟩
    have hz := ih k (i + 1) (by omega) (by omega)
    simp only [impl_ValidHead.l0, within_is, bind_some_]
    rw [if_pos (by omega), if_pos (by omega), if_pos (by omega), w64s i (by omega), hz, ite_tt, ite_tt]
    simp only [upTo, cuOk, Bool.and_assoc]
theorem implHead_is (k : Nat) (cs : List S34) (fc st : List Int) (x y : Int) (hc : cs.length ≤ 1048576) (hb : fc.length ≤ 1048576) (hs : st.length ≤ 1048576) (hk : cs.length + st.length + 3 < k) : impl_ValidHead.f k cs fc st x y = some (hdOk cs fc st x y) := by
  unfold impl_ValidHead.f
  have h0 := implHead_l0 cs fc st x y hc hb hs cs.length k 0 (by omega) (by omega)
  rw [show ((0 : Nat) : Int) = 0 by rfl] at h0
  rw [h0]
  unfold hdOk
  congr 1
  ac_rfl

end Go.Proofs.Ytfcadpkhmkjibaa.P
/- How far a cutter lasts, as the program reckons it. -/
namespace Go.Proofs.Ytfcadpkhmkjibaa.P
open Go.RowKit Go.Proofs.Ytfcadpkhmkjibaa.P Go.Proofs.YtfcadpkhmkjibaaW.PrintWords Go.Proofs.YtfcadpkhmkjibaaW.PrintLast Go.Proofs.YtfcadpkhmkjibaaW.PrintMore
set_option linter.unusedVariables false
set_option linter.unusedSimpArgs false
theorem implReach_l0 (cs : List S34) (fc st : List Int) (x y ax lim : Int) (hb : fc.length ≤ 9223372036854775806) : ∀ (d k i : Nat) (s : Int), i + d = fc.length → d < k → impl_Head_reach.l0 k i s cs fc st x y ax lim = some ((reachGo ax lim fc d i s : Nat) : Int) := by
  intro d
  induction d with
  | zero =>
    intro k i s hi hk
    obtain ⟨k, rfl⟩ : ∃ m, k = m + 1 := ⟨k - 1, by omega⟩
    simp only [impl_Head_reach.l0, reachGo]
    rw [if_neg (by omega)]
  | succ d ih =>
    intro k i s hi hk
    obtain ⟨k, rfl⟩ : ∃ m, k = m + 1 := ⟨k - 1, by omega⟩
    simp only [impl_Head_reach.l0, reachGo]
    rw [if_pos (by omega), if_pos (by omega), w64s i (by omega), ih k (i + 1) _ (by omega) (by omega)]
    split <;> rfl
theorem implReach_is (k : Nat) (cs : List S34) (fc st : List Int) (x y : Int) (a b : Nat) (s : Int) (ha : a < cs.length) (hb : fc.length ≤ 9223372036854775806) (hbl : b ≤ fc.length) (hk : fc.length < k) : impl_Head_reach.f k cs fc st x y a b s = some ((reachOf cs fc a b s : Nat) : Int) := by
  unfold impl_Head_reach.f reachOf
  rw [if_pos (by omega), if_pos (by omega)]
  exact implReach_l0 cs fc st x y _ _ hb (fc.length - b) k b s (by omega) (by omega)

end Go.Proofs.Ytfcadpkhmkjibaa.P
/- How worn the cutters are, plainly. -/
namespace Go.Proofs.Ytfcadpkhmkjibaa.P
open Go.RowKit Go.Proofs.Ytfcadpkhmkjibaa.P Go.Proofs.YtfcadpkhmkjibaaW.PrintWords Go.Proofs.YtfcadpkhmkjibaaW.PrintLast Go.Proofs.YtfcadpkhmkjibaaW.PrintMore
set_option linter.unusedVariables false
set_option linter.unusedSimpArgs false
theorem rises_mem {l : List Int} {lo hi : Int} (h : rises l lo hi = true) : ∀ c ∈ l, lo ≤ c ∧ c ≤ hi := by
  intro c hc
  obtain ⟨i, hi, rfl⟩ := List.getElem_of_mem hc
  unfold rises at h
  have h2 := (upTo_iff _ _ _).mp h i (by omega) (by omega)
  simp only [riseOk, Bool.and_eq_true, decide_eq_true_eq] at h2
  rw [rd_at l i hi] at h2
  exact h2.1
theorem hd_cut {cs : List S34} {fc st : List Int} {x y : Int} (h : hdOk cs fc st x y = true) (i : Nat) (hi : i < cs.length) : (1 ≤ (rd_T34 cs i).f0 ∧ (rd_T34 cs i).f0 ≤ 100) ∧ (1 ≤ (rd_T34 cs i).f1 ∧ (rd_T34 cs i).f1 ≤ 1000000) := by
  unfold hdOk at h
  simp only [Bool.and_eq_true, decide_eq_true_eq] at h
  have h2 := (upTo_iff _ _ _).mp h.2.2.2.2.1 i (by omega) (by omega)
  simpa only [cuOk, Bool.and_eq_true, decide_eq_true_eq] using h2
theorem hd_hard {cs : List S34} {fc st : List Int} {x y : Int} (h : hdOk cs fc st x y = true) (i : Nat) (hi : i < fc.length) : 0 ≤ rd fc (i : Int) ∧ rd fc (i : Int) ≤ 100 := by
  unfold hdOk impl_areWithin.all at h
  simp only [Bool.and_eq_true, decide_eq_true_eq, List.all_eq_true] at h
  rw [rd_at fc i hi]
  exact h.2.2.2.2.2.1 _ (List.getElem_mem hi)
theorem mul100 (a b : Int) (ha : 0 ≤ a ∧ a ≤ 100) (hb : 0 ≤ b ∧ b ≤ 100) : 0 ≤ a * b ∧ a * b ≤ 10000 := by
  constructor
  · exact Int.mul_nonneg ha.1 hb.1
  · have h1 : a * b ≤ 100 * b := Int.mul_le_mul_of_nonneg_right ha.2 hb.1
    omega
def chg (p : List S49) (c n : Int) : Bool := p.any fun s => decide (s.f0 = n) && decide (c ∈ s.f1)
def wearStep (cs : List S34) (fc : List Int) (c n : Nat) : Int := (rd_T34 cs (c : Int)).f0 * rd fc (n : Int)
def wearP (cs : List S34) (fc : List Int) (p : List S49) (c : Nat) : Nat → Int
  | 0 => 0
  | n + 1 => if chg p c ((n + 1 : Nat) : Int) = true then 0 else wearP cs fc p c n + wearStep cs fc c n
def wearIn (cs : List S34) (fc : List Int) (p : List S49) (c : Nat) : Nat → Int
  | 0 => 0
  | n + 1 => wearP cs fc p c n + wearStep cs fc c n
theorem wearP_eq (cs : List S34) (fc : List Int) (p : List S49) (c n : Nat) : wearP cs fc p c n = if chg p c (n : Int) = true then 0 else wearIn cs fc p c n := by
  cases n with
  | zero => simp [wearP, wearIn]
  | succ n => rfl
theorem step_in {cs : List S34} {fc st : List Int} {x y : Int} (h : hdOk cs fc st x y = true) (c n : Nat) (hc : c < cs.length) (hn : n < fc.length) : 0 ≤ wearStep cs fc c n ∧ wearStep cs fc c n ≤ 10000 := by
  have h1 := (hd_cut h c hc).1
  have h2 := hd_hard h n hn
  exact mul100 _ _ ⟨by omega, h1.2⟩ h2
theorem wearP_in {cs : List S34} {fc st : List Int} {x y : Int} (p : List S49) (h : hdOk cs fc st x y = true) (c : Nat) (hc : c < cs.length) : ∀ n : Nat, n ≤ fc.length → 0 ≤ wearP cs fc p c n ∧ wearP cs fc p c n ≤ 10000 * n
  | 0, _ => by simp [wearP]
  | n + 1, hn => by
    have h1 := wearP_in p h c hc n (by omega)
    have h2 := step_in h c n hc (by omega)
    simp only [wearP]
    split <;> omega
def planIn (n : Nat) (p : List S49) : Prop := shortS p ∧ ∀ s ∈ p, ∀ c ∈ s.f1, 0 ≤ c ∧ c < n
theorem planOk_in {n : Nat} {st : List Int} {p : List S49} (hn : n ≤ 1048576) (hp : shortS p) (h : planOk n st p = true) : planIn n p := by
  refine ⟨hp, ?_⟩
  intro s hs c hc
  obtain ⟨i, hi, rfl⟩ := List.getElem_of_mem hs
  unfold planOk at h
  have h2 := (upTo_iff _ _ _).mp h i (by omega) (by omega)
  simp only [stopOk, Bool.and_eq_true] at h2
  have h3 := rises_mem h2.2.2.1
  rw [rdStop_at p i hi] at h3
  have h4 := h3 c hc
  rw [w64 _ (by omega) (by omega)] at h4
  omega
def failC (cs : List S34) (fc : List Int) (p : List S49) (n : Nat) : Nat → Nat → Option Nat
  | 0, _ => none
  | d + 1, c => if wearP cs fc p c n + wearStep cs fc c n > (rd_T34 cs (c : Int)).f1 then some c else failC cs fc p n d (c + 1)
def failN (cs : List S34) (fc : List Int) (p : List S49) : Nat → Nat → Option (Nat × Nat)
  | 0, _ => none
  | d + 1, n => match failC cs fc p n cs.length 0 with
    | some c => some (c, n)
    | none => failN cs fc p d (n + 1)
def failP (cs : List S34) (fc : List Int) (p : List S49) : Option (Nat × Nat) := failN cs fc p fc.length 0

end Go.Proofs.Ytfcadpkhmkjibaa.P
/- A list that is told by what stands at each place. -/
namespace Go.Proofs.Ytfcadpkhmkjibaa.P
open Go.RowKit Go.Proofs.Ytfcadpkhmkjibaa.P Go.Proofs.YtfcadpkhmkjibaaW.PrintWords Go.Proofs.YtfcadpkhmkjibaaW.PrintLast Go.Proofs.YtfcadpkhmkjibaaW.PrintMore
set_option linter.unusedVariables false
set_option linter.unusedSimpArgs false
def wl (n : Nat) (f : Nat → Int) : List Int := (List.range n).map f
theorem wl_len (n : Nat) (f : Nat → Int) : (wl n f).length = n := by simp [wl]
theorem wl_get (n : Nat) (f : Nat → Int) (i : Nat) (h : i < (wl n f).length) : (wl n f)[i] = f i := by simp [wl]
theorem wl_rd (n : Nat) (f : Nat → Int) (i : Nat) (h : i < n) : rd (wl n f) (i : Int) = f i := by
  rw [rd_at _ i (by rw [wl_len]; exact h), wl_get]
theorem wl_congr (n : Nat) (f g : Nat → Int) (h : ∀ c, c < n → f c = g c) : wl n f = wl n g := by
  unfold wl
  apply List.map_congr_left
  intro c hc
  exact h c (List.mem_range.mp hc)
theorem wl_set (n : Nat) (f : Nat → Int) (i : Nat) (v : Int) : (wl n f).set i v = wl n (fun c => if c = i then v else f c) := by
  apply List.ext_getElem
  · rw [List.length_set, wl_len, wl_len]
  · intro j h1 h2
    rw [List.getElem_set, wl_get, wl_get]
    by_cases e : i = j
    · rw [if_pos e]
      show v = if j = i then v else f j
      rw [if_pos e.symm]
    · rw [if_neg e]
      show f j = if j = i then v else f j
      rw [if_neg (fun q : j = i => e q.symm)]
theorem wl_zero (n : Nat) : List.replicate n (0 : Int) = wl n (fun _ => 0) := by
  apply List.ext_getElem
  · rw [List.length_replicate, wl_len]
  · intro j h1 h2
    rw [wl_get, List.getElem_replicate]
end Go.Proofs.Ytfcadpkhmkjibaa.P
/- How worn the cutters are, as the program reckons it. -/
namespace Go.Proofs.Ytfcadpkhmkjibaa.P
open Go.RowKit Go.Proofs.Ytfcadpkhmkjibaa.P Go.Proofs.YtfcadpkhmkjibaaW.PrintWords Go.Proofs.YtfcadpkhmkjibaaW.PrintLast Go.Proofs.YtfcadpkhmkjibaaW.PrintMore
set_option linter.unusedVariables false
set_option linter.unusedSimpArgs false
theorem implWorn_l2 (cs : List S34) (fc st : List Int) (x y : Int) (p pl : List S49) (R n m i : Int) (ch : List Int) (hl : ch.length ≤ 1048576) (hch : ∀ c ∈ ch, 0 ≤ c ∧ c < cs.length) (F : Nat → Int) (out : Option (List Int)) (B : Nat)
    (hcont : ∀ k, B ≤ k → impl_Head_worn.l1 k p R (wl cs.length F) n pl m (wrap64 (i + 1)) cs fc st x y = out) : ∀ (d k j : Nat) (f : Nat → Int), j + d = ch.length → B + d < k → (∀ c : Nat, (if (c : Int) ∈ ch.drop j then 0 else f c) = F c) → impl_Head_worn.l2 k p R (wl cs.length f) n pl m i ch ch.length j cs fc st x y = out := by
  intro d
  induction d with
  | zero =>
    intro k j f hj hk hf
    obtain ⟨k, rfl⟩ : ∃ m, k = m + 1 := ⟨k - 1, by omega⟩
    simp only [impl_Head_worn.l2]
    rw [if_neg (by omega)]
    have e : f = F := by
      funext c
      have := hf c
      rw [List.drop_of_length_le (by omega)] at this
      simpa using this
    rw [e]
    exact hcont k (by omega)
  | succ d ih =>
    intro k j f hj hk hf
    obtain ⟨k, rfl⟩ : ∃ m, k = m + 1 := ⟨k - 1, by omega⟩
    have hc := hch _ (List.getElem_mem (show j < ch.length by omega))
    rw [← rd_at ch j (by omega)] at hc
    obtain ⟨q, hq⟩ : ∃ q : Nat, rd ch (j : Int) = q := ⟨(rd ch (j : Int)).toNat, by omega⟩
    simp only [impl_Head_worn.l2]
    rw [if_pos (by omega), if_pos (by omega), if_pos (by omega), if_pos hc.1, if_pos (by rw [wl_len]; exact hc.2), hq, Int.toNat_natCast, wl_set, w64s j (by omega)]
    refine ih k (j + 1) _ (by omega) (by omega) ?_
    intro c
    rw [← hf c, drop_at ch j (by omega), hq]
    by_cases h1 : c = q
    · subst h1
      simp
    · have h2 : ¬ (c : Int) = (q : Int) := by omega
      simp [h1, h2]
theorem implWorn_l1 (M : Nat) (hM : 1048580 ≤ M) (cs : List S34) (fc st : List Int) (x y : Int) (p : List S49) (R n : Int) (hp : planIn cs.length p) (F : Nat → Int) (out : Option (List Int)) (B : Nat)
    (hcont : ∀ k, B ≤ k → impl_Head_worn.l3 k p R (wl cs.length F) n cs cs.length 0 cs fc st x y = out) : ∀ (d k i : Nat) (f : Nat → Int), i + d = p.length → B + d * M < k → (∀ c : Nat, (if chg (p.drop i) c n = true then 0 else f c) = F c) → impl_Head_worn.l1 k p R (wl cs.length f) n p p.length i cs fc st x y = out := by
  intro d
  have hb := hp.1.1
  induction d with
  | zero =>
    intro k i f hj hk hf
    obtain ⟨k, rfl⟩ : ∃ m, k = m + 1 := ⟨k - 1, by omega⟩
    simp only [impl_Head_worn.l1]
    rw [if_neg (by omega)]
    have e : f = F := by
      funext c
      have := hf c
      rw [List.drop_of_length_le (by omega)] at this
      simpa [chg] using this
    rw [e]
    exact hcont k (by omega)
  | succ d ih =>
    intro k i f hj hk hf
    obtain ⟨k, rfl⟩ : ∃ m, k = m + 1 := ⟨k - 1, by omega⟩
    have hlt : i < p.length := by omega
    have hdm : (d + 1) * M = d * M + M := Nat.succ_mul d M
    have hs := shortS_at hp.1 i hlt
    have hm := hp.2 _ (List.getElem_mem hlt)
    rw [← rdStop_at p i hlt] at hm
    have hd : p.drop i = rd_T49 p (i : Int) :: p.drop (i + 1) := by rw [rdStop_at p i hlt, List.drop_eq_getElem_cons hlt]
    simp only [impl_Head_worn.l1]
    rw [if_pos (by omega), if_pos (by omega), if_pos (by omega)]
    by_cases h1 : (rd_T49 p (i : Int)).f0 = n
    · rw [if_pos h1]
      refine implWorn_l2 cs fc st x y p p R n p.length i _ hs hm (fun c => if (c : Int) ∈ (rd_T49 p (i : Int)).f1 then 0 else f c) out (B + d * M + 1) ?_ (rd_T49 p (i : Int)).f1.length k 0 f (by omega) (by omega) ?_
      · intro k2 hk2
        rw [w64s i (by omega)]
        refine ih k2 (i + 1) _ (by omega) (by omega) ?_
        intro c
        rw [← hf c, hd]
        simp only [chg, List.any_cons]
        by_cases h2 : (c : Int) ∈ (rd_T49 p (i : Int)).f1
        · simp [h1, h2]
        · simp [h2]
      · intro c
        rw [List.drop_zero]
    · rw [if_neg h1, w64s i (by omega)]
      refine ih k (i + 1) _ (by omega) (by omega) ?_
      intro c
      rw [← hf c, hd]
      simp [chg, h1]
theorem implWorn_l3a (cs : List S34) (fc st : List Int) (x y : Int) (hh : hdOk cs fc st x y = true) (p : List S49) (R n : Nat) (hn : n < R) (hR : R ≤ fc.length) (F : Nat → Int) (out : Option (List Int)) (B : Nat)
    (hcont : ∀ k, B ≤ k → impl_Head_worn.l0 k p R (wl cs.length F) ((n + 1 : Nat) : Int) cs fc st x y = out) : ∀ (d k j : Nat) (f : Nat → Int), j + d = cs.length → B + d < k → (∀ c : Nat, j ≤ c → c < cs.length → 0 ≤ f c ∧ f c ≤ 10000000) → (∀ c : Nat, c < cs.length → (if j ≤ c then f c + wearStep cs fc c n else f c) = F c) → impl_Head_worn.l3 k p R (wl cs.length f) n cs cs.length j cs fc st x y = out := by
  intro d
  have hin := hdOk_in hh
  induction d with
  | zero =>
    intro k j f hj hk hf hF
    obtain ⟨k, rfl⟩ : ∃ m, k = m + 1 := ⟨k - 1, by omega⟩
    simp only [impl_Head_worn.l3]
    rw [if_neg (by omega), w64s n (by omega), wl_congr cs.length f F (fun c hc => by have := hF c hc; rwa [if_neg (by omega)] at this)]
    exact hcont k (by omega)
  | succ d ih =>
    intro k j f hj hk hf hF
    obtain ⟨k, rfl⟩ : ∃ m, k = m + 1 := ⟨k - 1, by omega⟩
    have h1 := hf j (Nat.le_refl _) (by omega)
    have h2 := step_in hh j n (by omega) (by omega)
    have e1 : wrap64 ((rd_T34 cs (j : Int)).f0 * rd fc (n : Int)) = wearStep cs fc j n := by
      unfold wearStep at h2 ⊢
      rw [w64 _ (by omega) (by omega)]
    simp only [impl_Head_worn.l3]
    rw [if_pos (by omega), if_pos (by omega), if_pos (by omega), if_pos (by omega), if_pos (by rw [wl_len]; omega), if_pos (by omega), if_pos (by omega), e1, wl_rd _ _ j (by omega), w64 (f j + wearStep cs fc j n) (by omega) (by omega), Int.toNat_natCast, wl_set, w64s j (by omega)]
    refine ih k (j + 1) _ (by omega) (by omega) ?_ ?_
    · intro c h3 h4
      rw [if_neg (by omega)]
      exact hf c (by omega) h4
    · intro c h3
      rw [← hF c h3]
      by_cases h4 : c = j
      · subst h4
        rw [if_neg (by omega), if_pos rfl, if_pos (Nat.le_refl _)]
      · by_cases h5 : j ≤ c
        · rw [if_pos (by omega), if_neg h4, if_pos h5]
        · rw [if_neg (by omega), if_neg h4, if_neg h5]
theorem implWorn_l3b (cs : List S34) (fc st : List Int) (x y : Int) (p : List S49) (R : Nat) (hR : R ≤ 1048576) (hc : cs.length ≤ 1048576) (o : List Int) (out : Option (List Int)) (B : Nat)
    (hcont : ∀ k, B ≤ k → impl_Head_worn.l0 k p R o ((R + 1 : Nat) : Int) cs fc st x y = out) : ∀ (d k j : Nat), j + d = cs.length → B + d < k → impl_Head_worn.l3 k p R o R cs cs.length j cs fc st x y = out := by
  intro d
  induction d with
  | zero =>
    intro k j hj hk
    obtain ⟨k, rfl⟩ : ∃ m, k = m + 1 := ⟨k - 1, by omega⟩
    simp only [impl_Head_worn.l3]
    rw [if_neg (by omega), w64s R (by omega)]
    exact hcont k (by omega)
  | succ d ih =>
    intro k j hj hk
    obtain ⟨k, rfl⟩ : ∃ m, k = m + 1 := ⟨k - 1, by omega⟩
    simp only [impl_Head_worn.l3]
    rw [if_pos (by omega), if_pos (by omega), if_pos (by omega), if_neg (by omega), w64s j (by omega)]
    exact ih k (j + 1) (by omega) (by omega)
theorem implWorn_l0 (M C : Nat) (hM : 1048580 ≤ M) (cs : List S34) (fc st : List Int) (x y : Int) (hh : hdOk cs fc st x y = true) (p : List S49) (hp : planIn cs.length p) (R : Nat) (hR : R ≤ fc.length) (hC : p.length * M + 1000 ≤ C) : ∀ (e k n : Nat), n + e = R → (e + 1) * C < k → impl_Head_worn.l0 k p R (wl cs.length (fun c => wearIn cs fc p c n)) n cs fc st x y = some (wl cs.length (fun c => wearP cs fc p c R)) := by
  intro e
  have hin := hdOk_in hh
  have hb := hp.1.1
  induction e with
  | zero =>
    intro k n hn hk
    rw [Nat.zero_add, Nat.one_mul] at hk
    have hn2 : n = R := by omega
    subst hn2
    obtain ⟨k, rfl⟩ : ∃ m, k = m + 1 := ⟨k - 1, by omega⟩
    simp only [impl_Head_worn.l0]
    rw [if_pos (Int.le_refl _)]
    refine implWorn_l1 M hM cs fc st x y p n n hp (fun c => wearP cs fc p c n) _ 100 ?_ p.length k 0 _ (by omega) (by omega) ?_
    · intro k2 hk2
      refine implWorn_l3b cs fc st x y p n (by omega) (by omega) _ _ 1 ?_ cs.length k2 0 (by omega) (by omega)
      intro k3 hk3
      obtain ⟨k3, rfl⟩ : ∃ m, k3 = m + 1 := ⟨k3 - 1, by omega⟩
      simp only [impl_Head_worn.l0]
      rw [if_neg (by omega)]
    · intro c
      rw [List.drop_zero, wearP_eq]
  | succ e ih =>
    intro k n hn hk
    have hec : (e + 1 + 1) * C = (e + 1) * C + C := Nat.succ_mul (e + 1) C
    obtain ⟨k, rfl⟩ : ∃ m, k = m + 1 := ⟨k - 1, by omega⟩
    simp only [impl_Head_worn.l0]
    rw [if_pos (by omega)]
    refine implWorn_l1 M hM cs fc st x y p R n hp (fun c => wearP cs fc p c n) _ ((e + 1) * C + 100) ?_ p.length k 0 _ (by omega) (by omega) ?_
    · intro k2 hk2
      refine implWorn_l3a cs fc st x y hh p R n (by omega) hR (fun c => wearIn cs fc p c (n + 1)) _ ((e + 1) * C + 1) ?_ cs.length k2 0 _ (by omega) (by omega) ?_ ?_
      · intro k3 hk3
        exact ih k3 (n + 1) (by omega) (by omega)
      · intro c _ hc
        have := wearP_in p hh c hc n (by omega)
        omega
      · intro c hc
        rw [if_pos (Nat.zero_le _)]
        rfl
    · intro c
      rw [List.drop_zero, wearP_eq]
def wearOk (n : Nat) : Prop := 61 * 1099515900000 < n
theorem implWorn_is (wearK : Nat) (hW : wearOk wearK) (k : Nat) (cs : List S34) (fc st : List Int) (x y : Int) (hh : hdOk cs fc st x y = true) (p : List S49) (hp : planIn cs.length p) (R : Nat) (hR : R ≤ fc.length) (hk : wearK ≤ k) : impl_Head_worn.f k cs fc st x y p R = some (wl cs.length (fun c => wearP cs fc p c R)) := by
  have hin := hdOk_in hh
  have h1 : p.length * 1048580 ≤ 1048576 * 1048580 := Nat.mul_le_mul_right _ hp.1.1
  have h2 : (1048576 * 1048580 + 1000 : Nat) ≤ 1099515900000 := by decide
  have h3 : (R + 1) * 1099515900000 ≤ 61 * 1099515900000 := Nat.mul_le_mul_right _ (by omega)
  have h4 : 61 * 1099515900000 < wearK := hW
  unfold impl_Head_worn.f
  rw [if_pos (by omega), if_pos (by omega), Int.toNat_natCast, wl_zero]
  exact implWorn_l0 1048580 1099515900000 (Nat.le_refl _) cs fc st x y hh p hp R hR (Nat.le_trans (Nat.add_le_add_right h1 1000) h2) R k 0 (by omega) (Nat.lt_of_le_of_lt h3 (Nat.lt_of_lt_of_le h4 hk))
theorem implFail_l1 (cs : List S34) (fc st : List Int) (x y : Int) (hh : hdOk cs fc st x y = true) (p : List S49) (n : Nat) (hn : n < fc.length) (m : Int) (out : Option (Int × Int)) (B : Nat)
    (hcont : failC cs fc p n cs.length 0 = none → ∀ k, B ≤ k → impl_Head_failure.l0 k p fc m ((n + 1 : Nat) : Int) cs fc st x y = out) (hfound : ∀ c, failC cs fc p n cs.length 0 = some c → out = some ((c : Int), (n : Int))) : ∀ (d k j : Nat), j + d = cs.length → B + d < k → failC cs fc p n d j = failC cs fc p n cs.length 0 → impl_Head_failure.l1 k p n (rd fc (n : Int)) (wl cs.length (fun c => wearP cs fc p c n)) fc m n cs cs.length j cs fc st x y = out := by
  intro d
  have hin := hdOk_in hh
  induction d with
  | zero =>
    intro k j hj hk he
    obtain ⟨k, rfl⟩ : ∃ m, k = m + 1 := ⟨k - 1, by omega⟩
    simp only [impl_Head_failure.l1]
    rw [if_neg (by omega), w64s n (by omega)]
    exact hcont (by rw [← he]; rfl) k (by omega)
  | succ d ih =>
    intro k j hj hk he
    obtain ⟨k, rfl⟩ : ∃ m, k = m + 1 := ⟨k - 1, by omega⟩
    have h1 := wearP_in p hh j (by omega) n (by omega)
    have h2 := step_in hh j n (by omega) hn
    have e1 : wrap64 ((rd_T34 cs (j : Int)).f0 * rd fc (n : Int)) = wearStep cs fc j n := by
      unfold wearStep at h2 ⊢
      rw [w64 _ (by omega) (by omega)]
    simp only [impl_Head_failure.l1]
    rw [if_pos (by omega), if_pos (by omega), if_pos (by omega), if_pos (by rw [wl_len]; omega), e1, wl_rd _ _ j (by omega), w64 (wearP cs fc p j n + wearStep cs fc j n) (by omega) (by omega), w64s j (by omega)]
    simp only [failC] at he
    by_cases h3 : wearP cs fc p j n + wearStep cs fc j n > (rd_T34 cs (j : Int)).f1
    · rw [if_pos h3] at he ⊢
      exact (hfound j he.symm).symm
    · rw [if_neg h3] at he ⊢
      exact ih k (j + 1) (by omega) (by omega) he
theorem implFail_l0 (wearK : Nat) (hW : wearOk wearK) (cs : List S34) (fc st : List Int) (x y : Int) (hh : hdOk cs fc st x y = true) (p : List S49) (hp : planIn cs.length p) : ∀ (d k n : Nat), n + d = fc.length → wearK + 100 * d < k → impl_Head_failure.l0 k p fc fc.length n cs fc st x y = some (match failN cs fc p d n with | some (c, n) => ((c : Int), (n : Int)) | none => (-1, -1)) := by
  intro d
  have hin := hdOk_in hh
  induction d with
  | zero =>
    intro k n hn hk
    obtain ⟨k, rfl⟩ : ∃ m, k = m + 1 := ⟨k - 1, by omega⟩
    simp only [impl_Head_failure.l0, failN]
    rw [if_neg (by omega)]
  | succ d ih =>
    intro k n hn hk
    obtain ⟨k, rfl⟩ : ∃ m, k = m + 1 := ⟨k - 1, by omega⟩
    simp only [impl_Head_failure.l0, failN]
    rw [if_pos (by omega), if_pos (by omega), if_pos (by omega), implWorn_is wearK hW k cs fc st x y hh p hp n (by omega) (by omega), bind_some_]
    refine implFail_l1 cs fc st x y hh p n (by omega) _ _ (wearK + 100 * d + 1) ?_ ?_ cs.length k 0 (by omega) (by omega) rfl
    · intro h1 k2 hk2
      rw [h1]
      exact ih k2 (n + 1) (by omega) (by omega)
    · intro c hc
      rw [hc]
theorem implFail_is (wearK : Nat) (hW : wearOk wearK) (k : Nat) (cs : List S34) (fc st : List Int) (x y : Int) (hh : hdOk cs fc st x y = true) (p : List S49) (hp : planIn cs.length p) (hk : wearK + 10000 ≤ k) : impl_Head_failure.f k cs fc st x y p = some (match failP cs fc p with | some (c, n) => ((c : Int), (n : Int)) | none => (-1, -1)) := by
  have hin := hdOk_in hh
  unfold impl_Head_failure.f failP
  exact implFail_l0 wearK hW cs fc st x y hh p hp fc.length k 0 (by omega) (by omega)

end Go.Proofs.Ytfcadpkhmkjibaa.P
/- The plan for stops, plainly. -/
namespace Go.Proofs.Ytfcadpkhmkjibaa.P
open Go.RowKit Go.Proofs.Ytfcadpkhmkjibaa.P Go.Proofs.YtfcadpkhmkjibaaW.PrintWords Go.Proofs.YtfcadpkhmkjibaaW.PrintLast Go.Proofs.YtfcadpkhmkjibaaW.PrintMore
set_option linter.unusedVariables false
set_option linter.unusedSimpArgs false
def pickGo (cs : List S34) (fc : List Int) (p : List S49) (r nx : Nat) : Nat → Nat → List Int
  | 0, _ => []
  | d + 1, c => if reachOf cs fc c r (wearP cs fc p c r) < nx then (c : Int) :: pickGo cs fc p r nx d (c + 1) else pickGo cs fc p r nx d (c + 1)
def pick (cs : List S34) (fc : List Int) (p : List S49) (r nx : Nat) : List Int := pickGo cs fc p r nx cs.length 0
def forStep (cs : List S34) (fc : List Int) (r nx : Nat) (p : List S49) : List S49 :=
  if ((pick cs fc p r nx).length : Int) > 0 then p ++ [⟨(r : Int), pick cs fc p r nx⟩] else p
def nextAt (fc s : List Int) (i : Nat) : Nat := if ((i + 1 : Nat) : Int) < (s.length : Int) then (rd s ((i + 1 : Nat) : Int)).toNat else fc.length
def forGo (cs : List S34) (fc s : List Int) : Nat → Nat → List S49 → List S49
  | 0, _, p => p
  | d + 1, i, p => forGo cs fc s d (i + 1) (forStep cs fc (rd s (i : Int)).toNat (nextAt fc s i) p)
def forP (cs : List S34) (fc s : List Int) : List S49 := forGo cs fc s s.length 0 []
theorem pickGo_in (cs : List S34) (fc : List Int) (p : List S49) (r nx : Nat) : ∀ d c : Nat, (pickGo cs fc p r nx d c).length ≤ d ∧ ∀ v ∈ pickGo cs fc p r nx d c, (c : Int) ≤ v ∧ v < ((c + d : Nat) : Int)
  | 0, c => by simp [pickGo]
  | d + 1, c => by
    obtain ⟨h1, h2⟩ := pickGo_in cs fc p r nx d (c + 1)
    simp only [pickGo]
    split
    · refine ⟨by simp only [List.length_cons]; omega, ?_⟩
      intro v hv
      rcases List.mem_cons.mp hv with h | h
      · rw [h]; omega
      · have := h2 v h; omega
    · exact ⟨by omega, fun v hv => by have := h2 v hv; omega⟩
theorem pickP_in (cs : List S34) (fc : List Int) (p : List S49) (r nx : Nat) : (pick cs fc p r nx).length ≤ cs.length ∧ ∀ v ∈ pick cs fc p r nx, 0 ≤ v ∧ v < (cs.length : Int) := by
  obtain ⟨h1, h2⟩ := pickGo_in cs fc p r nx cs.length 0
  refine ⟨h1, ?_⟩
  intro v hv
  have := h2 v hv
  omega
theorem forStep_in {cs : List S34} (fc : List Int) {p : List S49} (r nx : Nat) (hc : cs.length ≤ 5) {i : Nat} (hi : i < 1048576) (hl : p.length ≤ i) (hp : planIn cs.length p) : (forStep cs fc r nx p).length ≤ i + 1 ∧ planIn cs.length (forStep cs fc r nx p) := by
  obtain ⟨h1, h2⟩ := pickP_in cs fc p r nx
  unfold forStep
  split
  · refine ⟨by simp only [List.length_append, List.length_cons, List.length_nil]; omega, ⟨by simp only [List.length_append, List.length_cons, List.length_nil]; omega, ?_⟩, ?_⟩
    · intro s hs
      rcases List.mem_append.mp hs with h | h
      · exact hp.1.2 s h
      · rw [List.mem_singleton.mp h]
        dsimp only
        omega
    · intro s hs
      rcases List.mem_append.mp hs with h | h
      · exact hp.2 s h
      · rw [List.mem_singleton.mp h]
        exact h2
  · exact ⟨by omega, hp⟩
theorem forGo_in {cs : List S34} (fc s : List Int) (hc : cs.length ≤ 5) : ∀ (d i : Nat) (p : List S49), i + d ≤ 1048576 → p.length ≤ i → planIn cs.length p → (forGo cs fc s d i p).length ≤ i + d ∧ planIn cs.length (forGo cs fc s d i p)
  | 0, i, p, _, hl, hp => ⟨hl, hp⟩
  | d + 1, i, p, h, hl, hp => by
    obtain ⟨h1, h2⟩ := forStep_in fc (rd s (i : Int)).toNat (nextAt fc s i) hc (show i < 1048576 by omega) hl hp
    obtain ⟨h3, h4⟩ := forGo_in fc s hc d (i + 1) _ (by omega) h1 h2
    simp only [forGo]
    exact ⟨by omega, h4⟩
theorem planIn_nil (n : Nat) : planIn n ([] : List S49) := ⟨⟨by simp, by simp⟩, by simp⟩
theorem forP_in {cs : List S34} (fc s : List Int) (hc : cs.length ≤ 5) (hs : s.length ≤ 1048576) : (forP cs fc s).length ≤ s.length ∧ planIn cs.length (forP cs fc s) := by
  have := forGo_in fc s hc s.length 0 [] (by omega) (by simp) (planIn_nil _)
  simpa [forP] using this

end Go.Proofs.Ytfcadpkhmkjibaa.P
/- The plan for stops, as the program makes it. -/
namespace Go.Proofs.Ytfcadpkhmkjibaa.P
open Go.RowKit Go.Proofs.Ytfcadpkhmkjibaa.P Go.Proofs.YtfcadpkhmkjibaaW.PrintWords Go.Proofs.YtfcadpkhmkjibaaW.PrintLast Go.Proofs.YtfcadpkhmkjibaaW.PrintMore
set_option linter.unusedVariables false
set_option linter.unusedSimpArgs false
theorem implFor_l1 (cs : List S34) (fc st : List Int) (x y : Int) (hh : hdOk cs fc st x y = true) (s : List Int) (p : List S49) (r nx : Nat) (hr : r ≤ fc.length) (i : Int) (out : Option (List S49 × Bool)) (B : Nat) (hB : 100 ≤ B)
    (hcont : ∀ k, B ≤ k → (if ((pick cs fc p r nx).length : Int) > 0 then (if p.length < 4398046511104 then impl_Head_planFor.l0 k s (p ++ [(⟨(r : Int), pick cs fc p r nx⟩ : S49)]) s s.length (wrap64 (i + 1)) cs fc st x y else none) else impl_Head_planFor.l0 k s p s s.length (wrap64 (i + 1)) cs fc st x y) = out) :
    ∀ (d k c : Nat) (acc : List Int), c + d = cs.length → B + d < k → acc.length ≤ c → acc ++ pickGo cs fc p r nx d c = pick cs fc p r nx → impl_Head_planFor.l1 k s p r nx s s.length i (wl cs.length (fun c => wearP cs fc p c r)) ((wl cs.length (fun c => wearP cs fc p c r)).length : Int) c cs fc st x y r acc = out := by
  intro d
  have hin := hdOk_in hh
  induction d with
  | zero =>
    intro k c acc hc hk hl ha
    obtain ⟨k, rfl⟩ : ∃ m, k = m + 1 := ⟨k - 1, by omega⟩
    simp only [impl_Head_planFor.l1]
    rw [if_neg (by rw [wl_len]; omega)]
    simp only [pickGo, List.append_nil] at ha
    rw [ha]
    exact hcont k (by omega)
  | succ d ih =>
    intro k c acc hc hk hl ha
    obtain ⟨k, rfl⟩ : ∃ m, k = m + 1 := ⟨k - 1, by omega⟩
    simp only [pickGo] at ha
    simp only [impl_Head_planFor.l1]
    rw [if_pos (by rw [wl_len]; omega), if_pos (by omega), if_pos (by rw [wl_len]; omega), wl_rd _ _ c (by omega), implReach_is k cs fc st x y c r _ (by omega) (by omega) hr (by omega), bind_some_, w64s c (by omega)]
    by_cases h : reachOf cs fc c r (wearP cs fc p c r) < nx
    · rw [if_pos h] at ha
      rw [if_pos (by omega), if_pos (by omega)]
      refine ih k (c + 1) _ (by omega) (by omega) (by simp only [List.length_append, List.length_cons, List.length_nil]; omega) ?_
      rw [List.append_assoc, List.singleton_append]
      exact ha
    · rw [if_neg h] at ha
      rw [if_neg (by omega)]
      exact ih k (c + 1) acc (by omega) (by omega) (by omega) ha
theorem implFor_l0 (wearK : Nat) (hW : wearOk wearK) (cs : List S34) (fc st : List Int) (x y : Int) (hh : hdOk cs fc st x y = true) (s : List Int) (hs : s.length ≤ 1048576) (hz : ∀ j : Nat, j < s.length → 0 ≤ rd s (j : Int) ∧ rd s (j : Int) < fc.length) :
    ∀ (d k i : Nat) (p : List S49), i + d = s.length → wearK + 20000 + 100 * d < k → p.length ≤ i → planIn cs.length p → impl_Head_planFor.l0 k s p s s.length i cs fc st x y = some (forGo cs fc s d i p, (failP cs fc (forGo cs fc s d i p)).isNone) := by
  intro d
  have hin := hdOk_in hh
  induction d with
  | zero =>
    intro k i p hi hk hl hp
    obtain ⟨k, rfl⟩ : ∃ m, k = m + 1 := ⟨k - 1, by omega⟩
    simp only [impl_Head_planFor.l0, forGo]
    rw [if_neg (by omega), implFail_is wearK hW k cs fc st x y hh p hp (by omega), bind_some_]
    cases failP cs fc p with
    | none => simp
    | some q =>
      obtain ⟨c, n⟩ := q
      simp
  | succ d ih =>
    intro k i p hi hk hl hp
    obtain ⟨k, rfl⟩ : ∃ m, k = m + 1 + 1 := ⟨k - 2, by omega⟩
    have g1 : (i : Int) < (s.length : Int) := by omega
    have g2 : (0 : Int) ≤ (i : Int) := by omega
    have g3 : i < 9223372036854775807 := by omega
    have g4 : (0 : Int) ≤ ((i + 1 : Nat) : Int) := by omega
    have hj := hz i (by omega)
    obtain ⟨r, hr⟩ : ∃ r : Nat, rd s (i : Int) = r := ⟨(rd s (i : Int)).toNat, by omega⟩
    rw [hr] at hj
    obtain ⟨h1, h2⟩ := forStep_in fc r (nextAt fc s i) hin.1 (show i < 1048576 by omega) hl hp
    have hgo : ∀ nx : Nat, nx = nextAt fc s i → impl_Head_planFor.j1 (k + 1) s p r nx s s.length i cs fc st x y = some (forGo cs fc s d (i + 1) (forStep cs fc r (nextAt fc s i) p), (failP cs fc (forGo cs fc s d (i + 1) (forStep cs fc r (nextAt fc s i) p))).isNone) := by
      intro nx hnx
      simp only [impl_Head_planFor.j1]
      rw [implWorn_is wearK hW k cs fc st x y hh p hp r (by omega) (by omega), bind_some_]
      refine implFor_l1 cs fc st x y hh s p r nx (by omega) i _ (wearK + 20000 + 100 * d + 10) (by omega) ?_ cs.length k 0 [] (by omega) (by omega) (by simp) rfl
      intro k2 hk2
      rw [w64s i (by omega), hnx]
      have hz2 := ih k2 (i + 1) _ (by omega) (by omega) h1 h2
      unfold forStep at hz2 ⊢
      split
      · rename_i hpos
        rw [if_pos hpos] at hz2
        rw [if_pos (by omega)]
        exact hz2
      · rename_i hpos
        rw [if_neg hpos] at hz2
        exact hz2
    have e1 : wrap64 ((i : Int) + 1) = ((i + 1 : Nat) : Int) := w64s i g3
    simp only [impl_Head_planFor.l0, forGo]
    rw [if_pos g1, if_pos g2, if_pos g1, e1, hr, Int.toNat_natCast]
    by_cases h : ((i + 1 : Nat) : Int) < (s.length : Int)
    · have hj2 := hz (i + 1) (by omega)
      have e2 : rd s ((i + 1 : Nat) : Int) = ((rd s ((i + 1 : Nat) : Int)).toNat : Int) := (Int.toNat_of_nonneg hj2.1).symm
      rw [if_pos h, if_pos g4, e2]
      refine hgo _ ?_
      unfold nextAt
      rw [if_pos h]
    · rw [if_neg h]
      refine hgo _ ?_
      unfold nextAt
      rw [if_neg h]
theorem implFor_is (wearK : Nat) (hW : wearOk wearK) (k : Nat) (cs : List S34) (fc st : List Int) (x y : Int) (hh : hdOk cs fc st x y = true) (s : List Int) (hs : s.length ≤ 1048576) (hz : ∀ j : Nat, j < s.length → 0 ≤ rd s (j : Int) ∧ rd s (j : Int) < fc.length) (hk : wearK + 200000000 ≤ k) : impl_Head_planFor.f k cs fc st x y s = some (forP cs fc s, (failP cs fc (forP cs fc s)).isNone) := by
  unfold impl_Head_planFor.f forP
  exact implFor_l0 wearK hW cs fc st x y hh s hs hz s.length k 0 [] (by omega) (by omega) (by simp) (planIn_nil _)

end Go.Proofs.Ytfcadpkhmkjibaa.P
/- A number is in a list, as the reference asks it. -/
namespace Go.Proofs.Ytfcadpkhmkjibaa.P
open Go.RowKit Go.Proofs.Ytfcadpkhmkjibaa.P Go.Proofs.YtfcadpkhmkjibaaW.PrintWords Go.Proofs.YtfcadpkhmkjibaaW.PrintLast Go.Proofs.YtfcadpkhmkjibaaW.PrintMore
set_option linter.unusedVariables false
set_option linter.unusedSimpArgs false
end Go.Proofs.Ytfcadpkhmkjibaa.P
/- A number lies in a range, as the reference asks it. -/
namespace Go.Proofs.Ytfcadpkhmkjibaa.P
open Go.RowKit Go.Proofs.Ytfcadpkhmkjibaa.P Go.Proofs.YtfcadpkhmkjibaaW.PrintWords Go.Proofs.YtfcadpkhmkjibaaW.PrintLast Go.Proofs.YtfcadpkhmkjibaaW.PrintMore
set_option linter.unusedVariables false
set_option linter.unusedSimpArgs false
end Go.Proofs.Ytfcadpkhmkjibaa.P
/- Numbers in a range that rise, as the reference asks it. -/
namespace Go.Proofs.Ytfcadpkhmkjibaa.P
open Go.RowKit Go.Proofs.Ytfcadpkhmkjibaa.P Go.Proofs.YtfcadpkhmkjibaaW.PrintWords Go.Proofs.YtfcadpkhmkjibaaW.PrintLast Go.Proofs.YtfcadpkhmkjibaaW.PrintMore
set_option linter.unusedVariables false
set_option linter.unusedSimpArgs false
end Go.Proofs.Ytfcadpkhmkjibaa.P
/- What the reference asks of a head. -/
namespace Go.Proofs.Ytfcadpkhmkjibaa.P
open Go.RowKit Go.Proofs.Ytfcadpkhmkjibaa.P Go.Proofs.YtfcadpkhmkjibaaW.PrintWords Go.Proofs.YtfcadpkhmkjibaaW.PrintLast Go.Proofs.YtfcadpkhmkjibaaW.PrintMore
set_option linter.unusedVariables false
set_option linter.unusedSimpArgs false
end Go.Proofs.Ytfcadpkhmkjibaa.P
namespace Go.Proofs.Ytfcadpkhmkjibaa.P
open Go.RowKit Go.Proofs.YtfcadpkhmkjibaaW.PrintWords Go.Proofs.YtfcadpkhmkjibaaW.PrintLast Go.Proofs.YtfcadpkhmkjibaaW.PrintMore
attribute [local go_sem] max2_int min2_int max_two min_two max_three min_three max_four min_four   -- for this text's walks alone
set_option linter.unusedVariables false
set_option linter.unusedSimpArgs false

def spec_l08Range.l0 : Nat → Int → Int → Int → Int → List (S34) → List Int → List Int → Int → Int → Option (Int)
 | 0, _, _, _, _, _, _, _, _, _ => none
 | k + 1, x1, x2, x3, x9, x1000, x1001, x1002, x1003, x1004 => if x9 < (x1001.length : Int) then (if 0 ≤ x1 then (if x1 < (x1000.length : Int) then (if 0 ≤ x9 then (if (wrap64 (x3 + (wrap64 (((rd_T34 x1000 x1).f0) * (rd x1001 x9))))) > ((rd_T34 x1000 x1).f1) then (some (wrap64 (x9 - x2))) else (spec_l08Range.l0 k x1 x2 (wrap64 (x3 + (wrap64 (((rd_T34 x1000 x1).f0) * (rd x1001 x9))))) (wrap64 (x9 + 1)) x1000 x1001 x1002 x1003 x1004)) else (none)) else (none)) else (none)) else (some (wrap64 (x9 - x2)))
def spec_l08Range.f (k : Nat) (l0_0 : List (S34)) (l0_1 : List Int) (l0_2 : List Int) (a0_3 : Int) (a0_4 : Int) (a1 : Int) (a2 : Int) (a3 : Int) : Option (Int) := spec_l08Range.l0 k a1 a2 a3 a2 l0_0 l0_1 l0_2 a0_3 a0_4
end Go.Proofs.Ytfcadpkhmkjibaa.P
/- How far a cutter lasts, as the reference reckons it. -/
namespace Go.Proofs.Ytfcadpkhmkjibaa.P
open Go.RowKit Go.Proofs.Ytfcadpkhmkjibaa.P Go.Proofs.YtfcadpkhmkjibaaW.PrintWords Go.Proofs.YtfcadpkhmkjibaaW.PrintLast Go.Proofs.YtfcadpkhmkjibaaW.PrintMore
set_option linter.unusedVariables false
set_option linter.unusedSimpArgs false
end Go.Proofs.Ytfcadpkhmkjibaa.P
namespace Go.Proofs.Ytfcadpkhmkjibaa.P
open Go.RowKit Go.Proofs.YtfcadpkhmkjibaaW.PrintWords Go.Proofs.YtfcadpkhmkjibaaW.PrintLast Go.Proofs.YtfcadpkhmkjibaaW.PrintMore
attribute [local go_sem] max2_int min2_int max_two min_two max_three min_three max_four min_four   -- for this text's walks alone
set_option linter.unusedVariables false
set_option linter.unusedSimpArgs false

mutual
def spec_l08Failure.l0 : Nat → List (S49) → Int → List (S34) → List Int → List Int → Int → Int → Option (Int × Int × Bool)
 | 0, _, _, _, _, _, _, _ => none
 | k + 1, x1, x7, x1000, x1001, x1002, x1003, x1004 => if x7 < (x1001.length : Int) then (spec_l08Failure.l1 k x1 x7 0 x1000 x1001 x1002 x1003 x1004) else (some (0, 0, false))
def spec_l08Failure.l1 : Nat → List (S49) → Int → Int → List (S34) → List Int → List Int → Int → Int → Option (Int × Int × Bool)
 | 0, _, _, _, _, _, _, _, _ => none
 | k + 1, x1, x7, x8, x1000, x1001, x1002, x1003, x1004 => if x8 < (x1000.length : Int) then ((spec_l08Worn.f k x1000 x1001 x1002 x1003 x1004 x1 x8 x7).bind fun t653 => (if 0 ≤ x8 then (if 0 ≤ x7 then (if x7 < (x1001.length : Int) then (if (wrap64 (t653 + (wrap64 (((rd_T34 x1000 x8).f0) * (rd x1001 x7))))) > ((rd_T34 x1000 x8).f1) then (some (x8, x7, true)) else (spec_l08Failure.l1 k x1 x7 (wrap64 (x8 + 1)) x1000 x1001 x1002 x1003 x1004)) else (none)) else (none)) else (none))) else (spec_l08Failure.l0 k x1 (wrap64 (x7 + 1)) x1000 x1001 x1002 x1003 x1004)
end
def spec_l08Failure.f (k : Nat) (l0_0 : List (S34)) (l0_1 : List Int) (l0_2 : List Int) (a0_3 : Int) (a0_4 : Int) (l1 : List (S49)) : Option (Int × Int × Bool) := spec_l08Failure.l0 k l1 0 l0_0 l0_1 l0_2 a0_3 a0_4
end Go.Proofs.Ytfcadpkhmkjibaa.P
/- How worn the cutters are, as the reference reckons it. -/
namespace Go.Proofs.Ytfcadpkhmkjibaa.P
open Go.RowKit Go.Proofs.Ytfcadpkhmkjibaa.P Go.Proofs.YtfcadpkhmkjibaaW.PrintWords Go.Proofs.YtfcadpkhmkjibaaW.PrintLast Go.Proofs.YtfcadpkhmkjibaaW.PrintMore
set_option linter.unusedVariables false
set_option linter.unusedSimpArgs false
end Go.Proofs.Ytfcadpkhmkjibaa.P
namespace Go.Proofs.Ytfcadpkhmkjibaa.P
open Go.RowKit Go.Proofs.YtfcadpkhmkjibaaW.PrintWords Go.Proofs.YtfcadpkhmkjibaaW.PrintLast Go.Proofs.YtfcadpkhmkjibaaW.PrintMore
attribute [local go_sem] max2_int min2_int max_two min_two max_three min_three max_four min_four   -- for this text's walks alone
set_option linter.unusedVariables false
set_option linter.unusedSimpArgs false

mutual
def spec_l08For.l0 : Nat → List Int → List (S49) → Int → List (S34) → List Int → List Int → Int → Int → Option ((List (S49)))
 | 0, _, _, _, _, _, _, _, _ => none
 | k + 1, x1, x5, x6, x1000, x1001, x1002, x1003, x1004 => if x6 < (x1.length : Int) then (if (wrap64 (x6 + 1)) < (x1.length : Int) then (if 0 ≤ (wrap64 (x6 + 1)) then (spec_l08For.j1 k x1 x5 x6 (rd x1 (wrap64 (x6 + 1))) x1000 x1001 x1002 x1003 x1004) else (none)) else (spec_l08For.j1 k x1 x5 x6 (x1001.length : Int) x1000 x1001 x1002 x1003 x1004)) else (some x5)
def spec_l08For.j1 : Nat → List Int → List (S49) → Int → Int → List (S34) → List Int → List Int → Int → Int → Option ((List (S49)))
 | 0, _, _, _, _, _, _, _, _, _ => none
 | k + 1, x1, x5, x6, x7, x1000, x1001, x1002, x1003, x1004 => spec_l08For.l1 k x1 x5 x6 x7 (([] : List Int)) 0 x1000 x1001 x1002 x1003 x1004
def spec_l08For.l1 : Nat → List Int → List (S49) → Int → Int → List Int → Int → List (S34) → List Int → List Int → Int → Int → Option ((List (S49)))
 | 0, _, _, _, _, _, _, _, _, _, _, _ => none
 | k + 1, x1, x5, x6, x7, x8, x9, x1000, x1001, x1002, x1003, x1004 => if x9 < (x1000.length : Int) then (if 0 ≤ x6 then (if x6 < (x1.length : Int) then ((spec_l08Worn.f k x1000 x1001 x1002 x1003 x1004 x5 x9 (rd x1 x6)).bind fun t648 => ((spec_l08Range.f k x1000 x1001 x1002 x1003 x1004 x9 (rd x1 x6) t648).bind fun t649 => (if (wrap64 ((rd x1 x6) + t649)) < x7 then (if x8.length < 17592186044416 then (spec_l08For.l1 k x1 x5 x6 x7 (x8 ++ [x9]) (wrap64 (x9 + 1)) x1000 x1001 x1002 x1003 x1004) else (none)) else (spec_l08For.l1 k x1 x5 x6 x7 x8 (wrap64 (x9 + 1)) x1000 x1001 x1002 x1003 x1004)))) else (none)) else (none)) else (if (x8.length : Int) > 0 then (if 0 ≤ x6 then (if x6 < (x1.length : Int) then (if x5.length < 4398046511104 then (spec_l08For.l0 k x1 (x5 ++ [(⟨rd x1 x6, x8⟩ : S49)]) (wrap64 (x6 + 1)) x1000 x1001 x1002 x1003 x1004) else (none)) else (none)) else (none)) else (spec_l08For.l0 k x1 x5 (wrap64 (x6 + 1)) x1000 x1001 x1002 x1003 x1004))
end
def spec_l08For.f (k : Nat) (l0_0 : List (S34)) (l0_1 : List Int) (l0_2 : List Int) (a0_3 : Int) (a0_4 : Int) (l1 : List Int) : Option ((List (S49))) := spec_l08For.l0 k l1 (([] : List (S49))) 0 l0_0 l0_1 l0_2 a0_3 a0_4
end Go.Proofs.Ytfcadpkhmkjibaa.P
namespace Go.Proofs.Ytfcadpkhmkjibaa.P
open Go.RowKit Go.Proofs.YtfcadpkhmkjibaaW.PrintWords Go.Proofs.YtfcadpkhmkjibaaW.PrintLast Go.Proofs.YtfcadpkhmkjibaaW.PrintMore
attribute [local go_sem] max2_int min2_int max_two min_two max_three min_three max_four min_four   -- for this text's walks alone
set_option linter.unusedVariables false
set_option linter.unusedSimpArgs false

end Go.Proofs.Ytfcadpkhmkjibaa.P
namespace Go.Proofs.Ytfcadpkhmkjibaa.P
open Go.RowKit Go.Proofs.YtfcadpkhmkjibaaW.PrintWords Go.Proofs.YtfcadpkhmkjibaaW.PrintLast Go.Proofs.YtfcadpkhmkjibaaW.PrintMore
attribute [local go_sem] max2_int min2_int max_two min_two max_three min_three max_four min_four   -- for this text's walks alone
set_option linter.unusedVariables false
set_option linter.unusedSimpArgs false

def spec_l08Enough.f (k : Nat) (l0_0 : List (S34)) (l0_1 : List Int) (l0_2 : List Int) (a0_3 : Int) (a0_4 : Int) (l1 : List (S49)) : Option (Bool) := (spec_l08Failure.f k l0_0 l0_1 l0_2 a0_3 a0_4 l1).bind fun bt657 => (some (!bt657.2.2))
end Go.Proofs.Ytfcadpkhmkjibaa.P
/- The plan for stops, as the reference makes it. -/
namespace Go.Proofs.Ytfcadpkhmkjibaa.P
open Go.RowKit Go.Proofs.Ytfcadpkhmkjibaa.P Go.Proofs.YtfcadpkhmkjibaaW.PrintWords Go.Proofs.YtfcadpkhmkjibaaW.PrintLast Go.Proofs.YtfcadpkhmkjibaaW.PrintMore
set_option linter.unusedVariables false
set_option linter.unusedSimpArgs false
end Go.Proofs.Ytfcadpkhmkjibaa.P
namespace Go.Proofs.Ytfcadpkhmkjibaa.P
open Go.RowKit Go.Proofs.YtfcadpkhmkjibaaW.PrintWords Go.Proofs.YtfcadpkhmkjibaaW.PrintLast Go.Proofs.YtfcadpkhmkjibaaW.PrintMore
attribute [local go_sem] max2_int min2_int max_two min_two max_three min_three max_four min_four   -- for this text's walks alone
set_option linter.unusedVariables false
set_option linter.unusedSimpArgs false

end Go.Proofs.Ytfcadpkhmkjibaa.P
namespace Go.Proofs.Ytfcadpkhmkjibaa.P
open Go.RowKit Go.Proofs.YtfcadpkhmkjibaaW.PrintWords Go.Proofs.YtfcadpkhmkjibaaW.PrintLast Go.Proofs.YtfcadpkhmkjibaaW.PrintMore
attribute [local go_sem] max2_int min2_int max_two min_two max_three min_three max_four min_four   -- for this text's walks alone
set_option linter.unusedVariables false
set_option linter.unusedSimpArgs false

mutual
def spec_PlanFor.j0 : Nat → List Int → Bool → List (S34) → List Int → List Int → Int → Int → Option ((List (S49)) × Bool)
 | 0, _, _, _, _, _, _, _ => none
 | k + 1, x1, x18, x661000, x661001, x661002, x661003, x661004 => if x18 = true then (some (([] : List (S49)), false)) else (spec_PlanFor.l0 k x1 0 x661000 x661001 x661002 x661003 x661004)
def spec_PlanFor.l0 : Nat → List Int → Int → List (S34) → List Int → List Int → Int → Int → Option ((List (S49)) × Bool)
 | 0, _, _, _, _, _, _, _ => none
 | k + 1, x1, x6, x661000, x661001, x661002, x661003, x661004 => if x6 < (x1.length : Int) then (if 0 ≤ x6 then ((spec_l00Has.f k x661002 (rd x1 x6)).bind fun t664 => (if t664 = true then (spec_PlanFor.l0 k x1 (wrap64 (x6 + 1)) x661000 x661001 x661002 x661003 x661004) else (some (([] : List (S49)), false)))) else (none)) else ((spec_l08For.f k x661000 x661001 x661002 x661003 x661004 x1).bind fun t665 => ((spec_l08Enough.f k x661000 x661001 x661002 x661003 x661004 t665).bind fun t668 => (if t668 = true then (some (t665, true)) else (some (([] : List (S49)), false)))))
end
end Go.Proofs.Ytfcadpkhmkjibaa.P
/- The plan for stops, as both sides answer. -/
namespace Go.Proofs.Ytfcadpkhmkjibaa.P
open Go.RowKit Go.Proofs.Ytfcadpkhmkjibaa.P Go.Proofs.YtfcadpkhmkjibaaW.PrintWords Go.Proofs.YtfcadpkhmkjibaaW.PrintLast Go.Proofs.YtfcadpkhmkjibaaW.PrintMore
set_option linter.unusedVariables false
set_option linter.unusedSimpArgs false
def planForP (cs : List S34) (fc st : List Int) (x y : Int) (s : List Int) : List S49 × Bool :=
  if (hdOk cs fc st x y && (rises s 0 (wrap64 ((fc.length : Int) - 1)) && !planForAny s st)) = true then (if (failP cs fc (forP cs fc s)).isNone = true then (forP cs fc s, true) else ([], false)) else ([], false)
theorem rises_rd {l : List Int} {lo hi : Int} (h : rises l lo hi = true) : ∀ j : Nat, j < l.length → lo ≤ rd l (j : Int) ∧ rd l (j : Int) ≤ hi := by
  intro j hj
  rw [rd_at l j hj]
  exact rises_mem h _ (List.getElem_mem hj)
theorem stops_in {cs : List S34} {fc st : List Int} {x y : Int} (hh : hdOk cs fc st x y = true) {s : List Int} (h : rises s 0 (wrap64 ((fc.length : Int) - 1)) = true) : ∀ j : Nat, j < s.length → 0 ≤ rd s (j : Int) ∧ rd s (j : Int) < fc.length := by
  intro j hj
  have hin := hdOk_in hh
  have := rises_rd h j hj
  rw [w64 _ (by omega) (by omega)] at this
  omega
theorem implPlanFor_is (wearK : Nat) (hW : wearOk wearK) (k : Nat) (cs : List S34) (fc st : List Int) (x y : Int) (s : List Int) (hc : cs.length ≤ 1048576) (hb : fc.length ≤ 1048576) (hs : st.length ≤ 1048576) (hl : s.length ≤ 1048576) (hk : wearK + 200000002 ≤ k) : impl_PlanFor.f k cs fc st x y s = some (planForP cs fc st x y s) := by
  obtain ⟨k, rfl⟩ : ∃ m, k = m + 1 := ⟨k - 1, by omega⟩
  unfold impl_PlanFor.f planForP impl_PlanFor_1.f
  rw [implHead_is _ cs fc st x y hc hb hs (by omega), bind_some_, implRises_is _ s _ (by omega) (by omega), bind_some_, bind_some_]
  simp only [impl_PlanFor.j0]
  by_cases h : hdOk cs fc st x y = true
  · rw [if_pos h, h, Bool.true_and]
    by_cases h2 : rises s 0 (wrap64 ((fc.length : Int) - 1)) = true
    · rw [if_pos h2, h2, Bool.true_and]
      cases h3 : planForAny s st with
      | true => simp
      | false =>
        rw [if_neg (by simp), implFor_is wearK hW k cs fc st x y h s hl (stops_in h h2) (by omega), bind_some_]
        simp only [Bool.not_false, if_true]
        split <;> rfl
    · rw [if_neg h2]
      have h4 : rises s 0 (wrap64 ((fc.length : Int) - 1)) = false := by simpa using h2
      rw [h4]
      simp
  · rw [if_neg h]
    have h4 : hdOk cs fc st x y = false := by simpa using h
    rw [h4]
    simp
end Go.Proofs.Ytfcadpkhmkjibaa.P
namespace Go.Proofs.Ytfcadpkhmkjibaa.P
open Go.RowKit Go.Proofs.YtfcadpkhmkjibaaW.PrintWords Go.Proofs.YtfcadpkhmkjibaaW.PrintLast Go.Proofs.YtfcadpkhmkjibaaW.PrintMore
attribute [local go_sem] max2_int min2_int max_two min_two max_three min_three max_four min_four   -- for this text's walks alone
set_option linter.unusedVariables false
set_option linter.unusedSimpArgs false

def cmp_isNaN_int64.f (a0 : Int) : Option (Bool) := some (a0 != a0)
def cmp_Compare_int64.f (a0 : Int) (a1 : Int) : Option (Int) := (cmp_isNaN_int64.f a0).bind fun t268 => ((cmp_isNaN_int64.f a1).bind fun t269 => (if t268 = true then (if t269 = true then (some 0) else (some (-1))) else (if t269 = true then (some 1) else (if a0 < a1 then (some (-1)) else (if a0 > a1 then (some 1) else (some 0))))))
def slices_Compare_int64_int64.l0 : Nat → List Int → List Int → List Int → Int → Int → Option (Int)
 | 0, _, _, _, _, _ => none
 | k + 1, x0, x1, x9, x10, x11 => if x11 < x10 then (if 0 ≤ x11 then (if x11 < (x9.length : Int) then (if x11 ≥ (x1.length : Int) then (some 1) else (if x11 < (x1.length : Int) then ((cmp_Compare_int64.f (rd x9 x11) (rd x1 x11)).bind fun t272 => (if t272 = 0 then (slices_Compare_int64_int64.l0 k x0 x1 x9 x10 (wrap64 (x11 + 1))) else (some t272))) else (none))) else (none)) else (none)) else (if (x0.length : Int) < (x1.length : Int) then (some (-1)) else (some 0))
def slices_Compare_int64_int64.f (k : Nat) (l0 : List Int) (l1 : List Int) : Option (Int) := slices_Compare_int64_int64.l0 k l0 l1 l0 (l0.length : Int) 0
def impl_ringsOf.l0 : Nat → List Int → List (S49) → Int → Int → Option (List Int)
 | 0, _, _, _, _ => none
 | k + 1, x3, x7, x8, x9 => if x9 < x8 then (if 0 ≤ x9 then (if x9 < (x7.length : Int) then (if x3.length < 17592186044416 then (impl_ringsOf.l0 k (x3 ++ [(rd_T49 x7 x9).f0]) x7 x8 (wrap64 (x9 + 1))) else (none)) else (none)) else (none)) else (some x3)
def impl_ringsOf.f (k : Nat) (l0 : List (S49)) : Option (List Int) := impl_ringsOf.l0 k (([] : List Int)) l0 (l0.length : Int) 0
mutual
def impl_CheapestPlan.l0 : Nat → List (S49) → Int → Bool → Int → Int → List (S34) → List Int → List Int → Int → Int → Option ((List (S49)) × Int × Bool)
 | 0, _, _, _, _, _, _, _, _, _, _ => none
 | k + 1, x5, x6, x7, x21, x22, x282000, x282001, x282002, x282003, x282004 => if x22 < x21 then (impl_CheapestPlan.l1 k x5 x6 x7 x22 (([] : List Int)) x21 x22 x282002 (x282002.length : Int) 0 x282000 x282001 x282002 x282003 x282004) else (some (x5, x6, x7))
def impl_CheapestPlan.l1 : Nat → List (S49) → Int → Bool → Int → List Int → Int → Int → List Int → Int → Int → List (S34) → List Int → List Int → Int → Int → Option ((List (S49)) × Int × Bool)
 | 0, _, _, _, _, _, _, _, _, _, _, _, _, _, _, _ => none
 | k + 1, x5, x6, x7, x8, x9, x21, x22, x27, x28, x29, x282000, x282001, x282002, x282003, x282004 => if x29 < x28 then (if 0 ≤ x29 then (if x29 < (x27.length : Int) then (if (Go.bits .and .i64 (shr .i64 x8 x29) 1) = 1 then (if x9.length < 17592186044416 then (impl_CheapestPlan.l1 k x5 x6 x7 x8 (x9 ++ [rd x27 x29]) x21 x22 x27 x28 (wrap64 (x29 + 1)) x282000 x282001 x282002 x282003 x282004) else (none)) else (impl_CheapestPlan.l1 k x5 x6 x7 x8 x9 x21 x22 x27 x28 (wrap64 (x29 + 1)) x282000 x282001 x282002 x282003 x282004)) else (none)) else (none)) else ((impl_Head_planFor.f k x282000 x282001 x282002 x282003 x282004 x9).bind fun bt290 => (if bt290.2 = true then ((impl_Head_cost.f k x282000 x282001 x282002 x282003 x282004 bt290.1).bind fun t294 => (if x7 = true then (if t294 < x6 then (impl_CheapestPlan.l0 k bt290.1 t294 true x21 (wrap64 (x22 + 1)) x282000 x282001 x282002 x282003 x282004) else (if t294 = x6 then ((impl_ringsOf.f k bt290.1).bind fun t295 => ((impl_ringsOf.f k x5).bind fun t298 => ((slices_Compare_int64_int64.f k t295 t298).bind fun t301 => (if t301 < 0 then (impl_CheapestPlan.l0 k bt290.1 t294 true x21 (wrap64 (x22 + 1)) x282000 x282001 x282002 x282003 x282004) else (impl_CheapestPlan.l0 k x5 x6 x7 x21 (wrap64 (x22 + 1)) x282000 x282001 x282002 x282003 x282004))))) else (impl_CheapestPlan.l0 k x5 x6 x7 x21 (wrap64 (x22 + 1)) x282000 x282001 x282002 x282003 x282004))) else (impl_CheapestPlan.l0 k bt290.1 t294 true x21 (wrap64 (x22 + 1)) x282000 x282001 x282002 x282003 x282004))) else (impl_CheapestPlan.l0 k x5 x6 x7 x21 (wrap64 (x22 + 1)) x282000 x282001 x282002 x282003 x282004)))
end
end Go.Proofs.Ytfcadpkhmkjibaa.P
namespace Go.Proofs.Ytfcadpkhmkjibaa.P
open Go.RowKit Go.Proofs.YtfcadpkhmkjibaaW.PrintWords Go.Proofs.YtfcadpkhmkjibaaW.PrintLast Go.Proofs.YtfcadpkhmkjibaaW.PrintMore
attribute [local go_sem] max2_int min2_int max_two min_two max_three min_three max_four min_four   -- for this text's walks alone
set_option linter.unusedVariables false
set_option linter.unusedSimpArgs false

mutual
def spec_l08Less.l0 : Nat → List Int → List Int → Int → Option (Bool)
 | 0, _, _, _ => none
 | k + 1, x0, x1, x5 => if x5 < (x0.length : Int) then (spec_l08Less.j1 k x0 x1 x5 (decide (x5 < (x1.length : Int)))) else (spec_l08Less.j1 k x0 x1 x5 false)
def spec_l08Less.j1 : Nat → List Int → List Int → Int → Bool → Option (Bool)
 | 0, _, _, _, _ => none
 | k + 1, x0, x1, x5, x15 => if x15 = true then (if 0 ≤ x5 then (if x5 < (x0.length : Int) then (if x5 < (x1.length : Int) then (if (rd x0 x5) = (rd x1 x5) then (spec_l08Less.l0 k x0 x1 (wrap64 (x5 + 1))) else (some (decide ((rd x0 x5) < (rd x1 x5))))) else (none)) else (none)) else (none)) else (some (decide ((x0.length : Int) < (x1.length : Int))))
end
end Go.Proofs.Ytfcadpkhmkjibaa.P
/- The safe rings whose bits are set. -/
namespace Go.Proofs.Ytfcadpkhmkjibaa.P
open Go.RowKit Go.Proofs.Ytfcadpkhmkjibaa.P Go.Proofs.YtfcadpkhmkjibaaW.PrintWords Go.Proofs.YtfcadpkhmkjibaaW.PrintLast Go.Proofs.YtfcadpkhmkjibaaW.PrintMore
set_option linter.unusedVariables false
set_option linter.unusedSimpArgs false
end Go.Proofs.Ytfcadpkhmkjibaa.P
/- The cheapest plan, as both sides answer. -/
namespace Go.Proofs.Ytfcadpkhmkjibaa.P
open Go.RowKit Go.Proofs.Ytfcadpkhmkjibaa.P Go.Proofs.YtfcadpkhmkjibaaW.PrintWords Go.Proofs.YtfcadpkhmkjibaaW.PrintLast Go.Proofs.YtfcadpkhmkjibaaW.PrintMore
set_option linter.unusedVariables false
set_option linter.unusedSimpArgs false
theorem costGo_in (x y : Int) (hx : 0 ≤ x ∧ x ≤ 10000) (hy : 0 ≤ y ∧ y ≤ 10000) : ∀ (p : List S49) (s : Int), (∀ t ∈ p, t.f1.length ≤ 5) → p.length ≤ 1000000 → 0 ≤ s → s + 60000 * p.length ≤ 1000000000000 → costGo x y p s = s + (p.map fun t => x + y * (t.f1.length : Int)).sum ∧ 0 ≤ (p.map fun t => x + y * (t.f1.length : Int)).sum ∧ (p.map fun t => x + y * (t.f1.length : Int)).sum ≤ 60000 * p.length
  | [], s, _, _, h0, _ => by simp [costGo]
  | t :: p, s, h5, hl, h0, h1 => by
    have ht := h5 t (by simp)
    have b1 : 0 ≤ y * (t.f1.length : Int) := Int.mul_nonneg hy.1 (by omega)
    have b2 : y * (t.f1.length : Int) ≤ 10000 * (t.f1.length : Int) := Int.mul_le_mul_of_nonneg_right hy.2 (by omega)
    simp only [List.length_cons] at hl h1
    have e1 := w64 (y * (t.f1.length : Int)) (by omega) (by omega)
    have e2 := w64 (x + y * (t.f1.length : Int)) (by omega) (by omega)
    have e3 := w64 (s + (x + y * (t.f1.length : Int))) (by omega) (by omega)
    obtain ⟨i1, i2, i3⟩ := costGo_in x y hx hy p (s + (x + y * (t.f1.length : Int))) (fun q hq => h5 q (by simp [hq])) (by omega) (by omega) (by omega)
    simp only [costGo, List.map_cons, List.sum_cons, List.length_cons]
    rw [e1, e2, e3, i1]
    clear e1 e2 e3 i1
    exact ⟨by omega, by omega, by omega⟩
def ringsP (p : List S49) : List Int := p.map fun t => t.f0
theorem ringsP_len (p : List S49) : (ringsP p).length = p.length := List.length_map ..
end Go.Proofs.Ytfcadpkhmkjibaa.P
/- A number is in a list, as the program asks it. -/
namespace Go.Proofs.Ytfcadpkhmkjibaa.P
open Go.RowKit Go.Proofs.Ytfcadpkhmkjibaa.P Go.Proofs.YtfcadpkhmkjibaaW.PrintWords Go.Proofs.YtfcadpkhmkjibaaW.PrintLast Go.Proofs.YtfcadpkhmkjibaaW.PrintMore
set_option linter.unusedVariables false
set_option linter.unusedSimpArgs false
theorem implIndex_loop (l : List Int) (n : Int) (hb : l.length ≤ 9223372036854775806) : ∀ (d k i : Nat), i + d = l.length → d < k → ∃ r, slices_Index_int64_int64.l0 k l n l.length i = some r ∧ (decide (r ≥ 0) = decide (n ∈ l.drop i)) := by
  intro d
  induction d with
  | zero =>
    intro k i hi hk
    obtain ⟨k, rfl⟩ : ∃ m, k = m + 1 := ⟨k - 1, by omega⟩
    simp only [slices_Index_int64_int64.l0]
    rw [if_neg (by omega), List.drop_of_length_le (by omega)]
    exact ⟨_, rfl, by simp⟩
  | succ d ih =>
    intro k i hi hk
    obtain ⟨k, rfl⟩ : ∃ m, k = m + 1 := ⟨k - 1, by omega⟩
    simp only [slices_Index_int64_int64.l0]
    rw [if_pos (by omega), if_pos (by omega), if_pos (by omega), w64s i (by omega), drop_at l i (by omega)]
    by_cases h : n = rd l i
    · rw [if_pos h]
      exact ⟨_, rfl, by simp [h]⟩
    · rw [if_neg h]
      obtain ⟨r, hr, hd⟩ := ih k (i + 1) (by omega) (by omega)
      refine ⟨r, hr, ?_⟩
      rw [hd]
      simp [h]
theorem implContains_is (k : Nat) (l : List Int) (n : Int) (hb : l.length ≤ 9223372036854775806) (hk : l.length < k) : slices_Contains_int64_int64.f k l n = some (decide (n ∈ l)) := by
  unfold slices_Contains_int64_int64.f slices_Index_int64_int64.f
  obtain ⟨r, hr, hd⟩ := implIndex_loop l n hb l.length k 0 (by omega) hk
  rw [show ((0 : Nat) : Int) = 0 from rfl] at hr
  rw [hr, bind_some_, hd, List.drop_zero]

end Go.Proofs.Ytfcadpkhmkjibaa.P
/- What is asked of a plan, as the program asks it. -/
namespace Go.Proofs.Ytfcadpkhmkjibaa.P
open Go.RowKit Go.Proofs.Ytfcadpkhmkjibaa.P Go.Proofs.YtfcadpkhmkjibaaW.PrintWords Go.Proofs.YtfcadpkhmkjibaaW.PrintLast Go.Proofs.YtfcadpkhmkjibaaW.PrintMore
set_option linter.unusedVariables false
set_option linter.unusedSimpArgs false
theorem implPlan_l0 (cs : List S34) (fc st : List Int) (x y : Int) (p : List S49) (hc : cs.length ≤ 1048576) (hs : st.length ≤ 1048576) (hp : shortS p) : ∀ (d k i : Nat), i + d = p.length → d + 1048577 < k → impl_IsPlan.l0 k p p p.length i cs fc st x y = some (upTo (stopOk cs.length st p) d i) := by
  intro d
  have hb := hp.1
  induction d with
  | zero =>
    intro k i hi hk
    obtain ⟨k, rfl⟩ : ∃ m, k = m + 1 := ⟨k - 1, by omega⟩
    simp only [impl_IsPlan.l0]
    rw [if_neg (by omega)]
    rfl
  | succ d ih =>
    intro k i hi hk
    obtain ⟨k, rfl⟩ : ∃ m, k = m + 1 := ⟨k - 1, by omega⟩
    have hz := ih k (i + 1) (by omega) (by omega)
    have h1 := shortS_at hp i (by omega)
    simp only [impl_IsPlan.l0]
    rw [if_pos (by omega), if_pos (by omega), if_pos (by omega), implContains_is k st _ (by omega) (by omega), implRises_is k _ _ (by omega) (by omega)]
    simp only [bind_some_]
    rw [w64s i (by omega)]
    by_cases h : i = 0
    · rw [if_neg (show ¬ (i : Int) > 0 by omega)]
      have hrest := ite_tc (decide ((rd_T49 p (i : Int)).f0 ∈ st)) _ _ (ite_fc (((rd_T49 p (i : Int)).f1.length : Int) = 0) _ _ (ite_tc (rises (rd_T49 p (i : Int)).f1 0 (wrap64 ((cs.length : Int) - 1))) _ _ hz))
      rw [hrest]
      simp only [upTo, stopOk]
      simp [h, Bool.and_assoc]
    · have e : wrap64 ((i : Int) - 1) = ((i - 1 : Nat) : Int) := by rw [w64 _ (by omega) (by omega)]; omega
      rw [if_pos (show (i : Int) > 0 by omega), e, if_pos (show (0 : Int) ≤ ((i - 1 : Nat) : Int) by omega), if_pos (show ((i - 1 : Nat) : Int) < (p.length : Int) by omega)]
      have hrest := ite_tc (decide ((rd_T49 p (i : Int)).f0 ∈ st)) _ _ (ite_fc (((rd_T49 p (i : Int)).f1.length : Int) = 0) _ _ (ite_tc (rises (rd_T49 p (i : Int)).f1 0 (wrap64 ((cs.length : Int) - 1))) _ _ (ite_fc ((rd_T49 p ((i - 1 : Nat) : Int)).f0 ≥ (rd_T49 p (i : Int)).f0) _ _ hz)))
      rw [hrest, not_ge_dec]
      simp only [upTo, stopOk]
      rw [decide_eq_false h, Bool.false_or]
      simp only [Bool.and_assoc]
theorem implIsPlan_is (k : Nat) (cs : List S34) (fc st : List Int) (x y : Int) (p : List S49) (hc : cs.length ≤ 1048576) (hb : fc.length ≤ 1048576) (hs : st.length ≤ 1048576) (hp : shortS p) (hk : cs.length + fc.length + st.length + p.length + 1048580 < k) : impl_IsPlan.f k cs fc st x y p = some (hdOk cs fc st x y && planOk cs.length st p) := by
  unfold impl_IsPlan.f planOk
  rw [implHead_is k cs fc st x y hc hb hs (by omega), bind_some_]
  exact ite_tc _ _ _ (implPlan_l0 cs fc st x y p hc hs hp p.length k 0 (by omega) (by omega))

end Go.Proofs.Ytfcadpkhmkjibaa.P
/- What a plan costs, as the program answers. -/
namespace Go.Proofs.Ytfcadpkhmkjibaa.P
open Go.RowKit Go.Proofs.Ytfcadpkhmkjibaa.P Go.Proofs.YtfcadpkhmkjibaaW.PrintWords Go.Proofs.YtfcadpkhmkjibaaW.PrintLast Go.Proofs.YtfcadpkhmkjibaaW.PrintMore
set_option linter.unusedVariables false
set_option linter.unusedSimpArgs false
theorem implCostOf_is (k : Nat) (cs : List S34) (fc st : List Int) (x y : Int) (p : List S49) (hc : cs.length ≤ 1048576) (hb : fc.length ≤ 1048576) (hs : st.length ≤ 1048576) (hp : shortS p) (hk : 10000000 ≤ k) : impl_CostOf.f k cs fc st x y p = some (costP cs fc st x y p) := by
  have hpl := hp.1
  unfold impl_CostOf.f impl_Head_cost.f costP
  have e := implCost_l0 cs fc st x y p hpl p.length k 0 0 (by omega) (by omega)
  rw [show ((0 : Nat) : Int) = 0 from rfl, List.drop_zero] at e
  rw [implIsPlan_is k cs fc st x y p hc hb hs hp (by omega), bind_some_, e, bind_some_]
  split <;> rfl

end Go.Proofs.Ytfcadpkhmkjibaa.P
/- A number drawn from an input's bytes lies below its bound. -/
namespace Go.Proofs.Ytfcadpkhmkjibaa.P
open Go.RowKit Go.Proofs.Ytfcadpkhmkjibaa.P Go.Proofs.YtfcadpkhmkjibaaW.PrintWords Go.Proofs.YtfcadpkhmkjibaaW.PrintLast Go.Proofs.YtfcadpkhmkjibaaW.PrintMore
set_option linter.unusedVariables false
set_option linter.unusedSimpArgs false
theorem u64_in (n : Int) : 0 ≤ IntKind.u64.wrap n ∧ IntKind.u64.wrap n < 18446744073709551616 := by
  simp only [IntKind.wrap, IntKind.bits, IntKind.signed]
  simp
  omega
theorem wraps_u64 (n : Int) (h₀ : 0 ≤ n) (h₁ : n < 2 ^ 64) : IntKind.u64.wrap n = n := by
  simp only [IntKind.wrap, IntKind.bits, IntKind.signed]
  simp
  omega
theorem u64_and255 (x : Int) (h₀ : 0 ≤ x) (h₁ : x < 18446744073709551616) : bits .and .u64 x 255 = x % 256 := bits_mask .u64 64 (by decide) wraps_u64 8 (by decide) x h₀ (by omega)
theorem low_in (n : Int) : 0 ≤ wrap64 (Go.bits .and .u64 (IntKind.u64.wrap n / 1099511627776) 255) ∧ wrap64 (Go.bits .and .u64 (IntKind.u64.wrap n / 1099511627776) 255) ≤ 255 := by
  have h := u64_in n
  have h2 : 0 ≤ IntKind.u64.wrap n / 1099511627776 ∧ IntKind.u64.wrap n / 1099511627776 < 18446744073709551616 := by omega
  rw [u64_and255 _ h2.1 h2.2, w64 _ (by omega) (by omega)]
  omega
theorem next_in (l : List Int) (hl : ∀ x ∈ l, (Lit.int .u8 x).wf = true) (s e : Int) (hs : 0 ≤ s ∧ s ≤ 1000000000000) : ∃ r e', spec_l00Src_next.f l s e = some (r, s + 1, e') ∧ 0 ≤ r ∧ r ≤ 255 := by
  unfold spec_l00Src_next.f
  rw [w64 (s + 1) (by omega) (by omega)]
  by_cases h1 : s < (l.length : Int)
  · obtain ⟨j, rfl⟩ : ∃ j : Nat, s = j := ⟨s.toNat, by omega⟩
    have hr := wfu8 (hl _ (List.getElem_mem (show j < l.length by omega)))
    rw [if_pos h1, if_pos (by omega), if_pos (by omega), rd_at l j (by omega), w64 _ (by omega) (by omega)]
    exact ⟨_, _, rfl, hr.1, hr.2⟩
  · rw [if_neg h1]
    by_cases h2 : s + 1 ≤ (l.length : Int)
    · omega
    · rw [if_neg h2]
      exact ⟨_, _, rfl, (low_in _).1, (low_in _).2⟩
theorem pick_in (l : List Int) (hl : ∀ x ∈ l, (Lit.int .u8 x).wf = true) (s e n : Int) (hs : 0 ≤ s ∧ s ≤ 900000000000) (hn : 1 ≤ n ∧ n ≤ 1000000) : ∃ r s' e', spec_l00Src_pick.f l s e n = some (r, s', e') ∧ (0 ≤ r ∧ r < n) ∧ (s ≤ s' ∧ s' ≤ s + 2) := by
  unfold spec_l00Src_pick.f
  by_cases h1 : n ≤ 1
  · rw [if_pos h1]
    exact ⟨_, _, _, rfl, by omega, by omega⟩
  · rw [if_neg h1]
    obtain ⟨r, e1, h, r1, r2⟩ := next_in l hl s e (by omega)
    rw [h, bind_some_]
    by_cases h2 : n > 200
    · obtain ⟨q, e2, h', q1, q2⟩ := next_in l hl (s + 1) e1 (by omega)
      rw [if_pos h2, h', bind_some_, if_neg (by omega), w64 (r * 256) (by omega) (by omega), w64 (r * 256 + q) (by omega) (by omega)]
      exact ⟨_, _, _, rfl, ⟨Int.tmod_nonneg _ (by omega), Int.tmod_lt_of_pos _ (by omega)⟩, by dsimp only; omega⟩
    · rw [if_neg h2, if_neg (by omega)]
      exact ⟨_, _, _, rfl, ⟨Int.tmod_nonneg _ r1, Int.tmod_lt_of_pos _ (by omega)⟩, by dsimp only; omega⟩

end Go.Proofs.Ytfcadpkhmkjibaa.P
/- An element of a list of structs, read at an index. -/
namespace Go.Proofs.Ytfcadpkhmkjibaa.P
open Go.RowKit Go.Proofs.Ytfcadpkhmkjibaa.P Go.Proofs.YtfcadpkhmkjibaaW.PrintWords Go.Proofs.YtfcadpkhmkjibaaW.PrintLast Go.Proofs.YtfcadpkhmkjibaaW.PrintMore
set_option linter.unusedVariables false
set_option linter.unusedSimpArgs false
theorem rdCutter_at (l : List S34) (i : Nat) (h : i < l.length) : rd_T34 l (i : Int) = l[i] := by
  unfold rd_T34
  rw [Int.toNat_natCast, List.getD_eq_getElem?_getD, List.getElem?_eq_getElem h]
  rfl
end Go.Proofs.Ytfcadpkhmkjibaa.P
/- What a law draws is a valid head with a plan. -/
namespace Go.Proofs.Ytfcadpkhmkjibaa.P
open Go.RowKit Go.Proofs.Ytfcadpkhmkjibaa.P Go.Proofs.YtfcadpkhmkjibaaW.PrintWords Go.Proofs.YtfcadpkhmkjibaaW.PrintLast Go.Proofs.YtfcadpkhmkjibaaW.PrintMore
set_option linter.unusedVariables false
set_option linter.unusedSimpArgs false
theorem rd_app1 (l : List Int) (v : Int) (i : Nat) : rd (l ++ [v]) i = if i < l.length then rd l i else if i = l.length then v else 0 := by
  unfold rd
  rw [Int.toNat_natCast, List.getD_eq_getElem?_getD, List.getD_eq_getElem?_getD]
  by_cases h : i < l.length
  · rw [if_pos h, List.getElem?_append_left h]
  · rw [if_neg h, List.getElem?_append_right (by omega)]
    by_cases h2 : i = l.length
    · rw [if_pos h2]; subst h2; simp
    · rw [if_neg h2]
      obtain ⟨m, hm⟩ : ∃ m, i - l.length = m + 1 := ⟨i - l.length - 1, by omega⟩
      rw [hm]; rfl
def rz (l : List Int) (lo hi : Int) : Prop := (∀ j : Nat, j < l.length → lo ≤ rd l (j : Int) ∧ rd l (j : Int) < hi) ∧ (∀ j : Nat, j + 1 < l.length → rd l (j : Int) < rd l ((j + 1 : Nat) : Int))
theorem rz_nil (lo hi : Int) : rz [] lo hi := ⟨fun j h => by simp at h, fun j h => by simp at h⟩
theorem rz_up {l : List Int} {lo h1 h2 : Int} (h : rz l lo h1) (h3 : h1 ≤ h2) : rz l lo h2 := ⟨fun j hj => by have := h.1 j hj; omega, h.2⟩
theorem rz_app {l : List Int} {lo h1 h2 v : Int} (h : rz l lo h1) (h3 : h1 ≤ v) (h4 : lo ≤ v) (h5 : v < h2) : rz (l ++ [v]) lo h2 := by
  constructor
  · intro j hj
    rw [List.length_append, List.length_singleton] at hj
    rw [rd_app1]
    by_cases e : j < l.length
    · rw [if_pos e]; have := h.1 j e; omega
    · rw [if_neg e, if_pos (by omega)]; omega
  · intro j hj
    rw [List.length_append, List.length_singleton] at hj
    rw [rd_app1, rd_app1, if_pos (by omega)]
    by_cases e : j + 1 < l.length
    · rw [if_pos e]; exact h.2 j e
    · rw [if_neg e, if_pos (by omega)]; have := h.1 j (by omega); omega
theorem rz_rises {l : List Int} {lo hi : Int} (h : rz l lo hi) : rises l lo (hi - 1) = true := by
  unfold rises
  rw [upTo_iff]
  intro j _ hj
  have h1 := h.1 j (by omega)
  simp only [riseOk, Bool.and_eq_true, Bool.or_eq_true, decide_eq_true_eq]
  refine ⟨by omega, ?_⟩
  by_cases e : j = 0
  · exact .inl e
  · right
    obtain ⟨i, rfl⟩ : ∃ i, j = i + 1 := ⟨j - 1, by omega⟩
    exact h.2 i (by omega)
theorem rz_lt {l : List Int} {lo hi : Int} (h : rz l lo hi) (a : Nat) : ∀ d : Nat, a + 1 + d < l.length → rd l (a : Int) < rd l ((a + 1 + d : Nat) : Int)
  | 0, h1 => h.2 a h1
  | d + 1, h1 => by
    have h2 := rz_lt h a d (by omega)
    have h3 := h.2 (a + 1 + d) (by omega)
    have e : a + 1 + (d + 1) = a + 1 + d + 1 := by omega
    rw [e]
    omega
def hdFine (h : List S34 × List Int × List Int × Int × Int) : Prop := hdOk h.1 h.2.1 h.2.2.1 h.2.2.2.1 h.2.2.2.2 = true ∧ rz h.2.2.1 0 h.2.1.length
theorem rdCutter_app (l : List S34) (g : S34) (i : Nat) (hi : i < (l ++ [g]).length) : rd_T34 (l ++ [g]) i = if i < l.length then rd_T34 l i else g := by
  rw [rdCutter_at _ i hi]
  by_cases h : i < l.length
  · rw [if_pos h, List.getElem_append_left h, rdCutter_at l i h]
  · rw [if_neg h, List.getElem_append_right (by omega)]
    simp
theorem cuAll_app {l : List S34} {g : S34} (h : ∀ i, i < l.length → cuOk l i = true) (hg : (1 ≤ g.f0 ∧ g.f0 ≤ 100) ∧ (1 ≤ g.f1 ∧ g.f1 ≤ 1000000)) : ∀ i, i < (l ++ [g]).length → cuOk (l ++ [g]) i = true := by
  intro i hi
  unfold cuOk
  rw [rdCutter_app l g i hi]
  by_cases e : i < l.length
  · rw [if_pos e]; exact h i e
  · rw [if_neg e]; simp only [Bool.and_eq_true, decide_eq_true_eq]; exact hg
theorem cuAll_set {l : List S34} {g : S34} (j : Nat) (h : ∀ i, i < l.length → cuOk l i = true) (hg : (1 ≤ g.f0 ∧ g.f0 ≤ 100) ∧ (1 ≤ g.f1 ∧ g.f1 ≤ 1000000)) : ∀ i, i < (l.set j g).length → cuOk (l.set j g) i = true := by
  intro i hi
  have hi2 : i < l.length := by rw [List.length_set] at hi; exact hi
  have h2 := h i hi2
  unfold cuOk at h2 ⊢
  rw [rdCutter_at l i hi2] at h2
  rw [rdCutter_at _ i hi, List.getElem_set]
  by_cases e : j = i
  · rw [if_pos e]; simp only [Bool.and_eq_true, decide_eq_true_eq]; exact hg
  · rw [if_neg e]; exact h2
theorem hd_make (cs : List S34) (fc st : List Int) (x y : Int) (h1 : 1 ≤ cs.length ∧ cs.length ≤ 5) (h2 : fc.length ≤ 60) (h3 : st.length ≤ 8) (h4 : rz st 0 fc.length) (h5 : ∀ i, i < cs.length → cuOk cs i = true) (h6 : ∀ v ∈ fc, 0 ≤ v ∧ v ≤ 100) (h7 : 0 ≤ x ∧ x ≤ 10000) (h8 : 0 ≤ y ∧ y ≤ 10000) : hdOk cs fc st x y = true := by
  unfold hdOk impl_areWithin.all
  have h9 := rz_rises h4
  rw [w64 _ (by omega) (by omega), h9]
  simp only [Bool.and_eq_true, decide_eq_true_eq, List.all_eq_true]
  exact ⟨by omega, by omega, by omega, trivial, (upTo_iff _ _ _).mpr (fun j _ hj => h5 j (by omega)), h6, h7, h8⟩
theorem one_in (l : List Int) (hl : ∀ x ∈ l, (Lit.int .u8 x).wf = true) (s e n : Int) (hs : 0 ≤ s ∧ s ≤ 900000000000) (hn : 1 ≤ n ∧ n ≤ 1000000) : ∃ r s' e', spec_l00Src_one.f l s e n = some (r, s', e') ∧ (s ≤ s' ∧ s' ≤ s + 2) := by
  obtain ⟨r, s', e', h1, _, h2⟩ := pick_in l hl s e n hs hn
  unfold spec_l00Src_one.f
  rw [h1, bind_some_]
  exact ⟨_, _, _, rfl, h2⟩
theorem drawHead_l2 (c : List Int) (fc st : List Int) (x y s e : Int) (h2 : fc.length ≤ 60) (h3 : st.length ≤ 8) (h4 : rz st 0 fc.length) (h6 : ∀ v ∈ fc, 0 ≤ v ∧ v ≤ 100) (h7 : 0 ≤ x ∧ x ≤ 10000) (h8 : 0 ≤ y ∧ y ≤ 10000) : ∀ (d k : Nat) (cs : List S34), cs.length + d = 5 → d < k → 1 ≤ cs.length → (∀ i, i < cs.length → cuOk cs i = true) → ∃ h s' e', spec_l08DrawOk.l2 k c s e cs fc st x y = some (h.1, h.2.1, h.2.2.1, h.2.2.2.1, h.2.2.2.2, s', e') ∧ hdFine h := by
  intro d
  induction d with
  | zero =>
    intro k cs hd hk h1 h5
    obtain ⟨k, rfl⟩ : ∃ m, k = m + 1 := ⟨k - 1, by omega⟩
    simp only [spec_l08DrawOk.l2]
    rw [if_neg (by omega)]
    exact ⟨(cs, fc, st, x, y), _, _, rfl, hd_make cs fc st x y (by omega) h2 h3 h4 h5 h6 h7 h8, h4⟩
  | succ d ih =>
    intro k cs hd hk h1 h5
    obtain ⟨k, rfl⟩ : ∃ m, k = m + 1 := ⟨k - 1, by omega⟩
    simp only [spec_l08DrawOk.l2]
    rw [if_pos (by omega), if_pos (by omega)]
    exact ih k _ (by simp; omega) (by omega) (by simp) (cuAll_app h5 (by simp))
theorem drawHead_l1 (c : List Int) (hc : ∀ x ∈ c, (Lit.int .u8 x).wf = true) (fc st : List Int) (x y : Int) (h2 : fc.length ≤ 60) (h3 : st.length ≤ 8) (h4 : rz st 0 fc.length) (h6 : ∀ v ∈ fc, 0 ≤ v ∧ v ≤ 100) (h7 : 0 ≤ x ∧ x ≤ 10000) (h8 : 0 ≤ y ∧ y ≤ 10000) : ∀ (d k : Nat) (cs : List S34) (s e : Int), cs.length + d ≤ 3 → 1 ≤ cs.length + d → d + 10 < k → (0 ≤ s ∧ s ≤ 100000 - 10 * (d : Int)) → (∀ i, i < cs.length → cuOk cs i = true) → ∃ h s' e', spec_l08DrawOk.l1 k d c s e cs fc st x y = some (h.1, h.2.1, h.2.2.1, h.2.2.2.1, h.2.2.2.2, s', e') ∧ hdFine h := by
  intro d
  induction d with
  | zero =>
    intro k cs s e hd hd1 hk hs h5
    obtain ⟨k, rfl⟩ : ∃ m, k = m + 1 := ⟨k - 1, by omega⟩
    obtain ⟨r, s1, e1, q1, q2⟩ := one_in c hc s e 16 (by omega) (by omega)
    simp only [spec_l08DrawOk.l1]
    rw [if_neg (by omega), q1, bind_some_]
    cases r with
    | true =>
      rw [if_pos rfl, if_pos (by omega), show (0 : Int).toNat = 0 from rfl]
      exact drawHead_l2 c fc st x y s1 e1 h2 h3 h4 h6 h7 h8 (5 - cs.length) k _ (by simp; omega) (by omega) (by simp; omega) (cuAll_set 0 h5 (by simp))
    | false =>
      rw [if_neg (by simp)]
      exact ⟨(cs, fc, st, x, y), _, _, rfl, hd_make cs fc st x y (by omega) h2 h3 h4 h5 h6 h7 h8, h4⟩
  | succ d ih =>
    intro k cs s e hd hd1 hk hs h5
    obtain ⟨k, rfl⟩ : ∃ m, k = m + 1 := ⟨k - 1, by omega⟩
    obtain ⟨a, s1, e1, q1, a1, q2⟩ := pick_in c hc s e 6 (by omega) (by omega)
    obtain ⟨b, s2, e2, q3, b1, q4⟩ := pick_in c hc s1 e1 80 (by omega) (by omega)
    simp only [spec_l08DrawOk.l1]
    rw [if_pos (by omega), q1]
    simp only [bind_some_, q3]
    rw [if_pos (by omega), w64 (1 + a) (by omega) (by omega), w64 (20 + b) (by omega) (by omega), w64 (((d + 1 : Nat) : Int) - 1) (by omega) (by omega), show ((d + 1 : Nat) : Int) - 1 = (d : Int) by omega]
    exact ih k _ s2 e2 (by simp; omega) (by simp; omega) (by omega) (by omega) (cuAll_app h5 ⟨by dsimp only; omega, by dsimp only; omega⟩)
theorem drawHead_l0 (c : List Int) (hc : ∀ x ∈ c, (Lit.int .u8 x).wf = true) (x y : Int) (h7 : 0 ≤ x ∧ x ≤ 10000) (h8 : 0 ≤ y ∧ y ≤ 10000) (n : Nat) (hn : n ≤ 60) : ∀ (d k i : Nat) (fc st : List Int) (s e : Int), i + d = n → d + 20 < k → fc.length = i → st.length ≤ 5 → rz st 0 i → (∀ v ∈ fc, 0 ≤ v ∧ v ≤ 100) → (0 ≤ s ∧ s ≤ 10000 - 10 * (d : Int)) → ∃ h s' e', spec_l08DrawOk.l0 k n i c s e [] fc st x y = some (h.1, h.2.1, h.2.2.1, h.2.2.2.1, h.2.2.2.2, s', e') ∧ hdFine h := by
  intro d
  induction d with
  | zero =>
    intro k i fc st s e hi hk hl hst hr hf hs
    obtain ⟨k, rfl⟩ : ∃ m, k = m + 1 := ⟨k - 1, by omega⟩
    obtain ⟨a, s1, e1, q1, a1, q2⟩ := pick_in c hc s e 3 (by omega) (by omega)
    obtain ⟨m, hm⟩ : ∃ m : Nat, 1 + a = m := ⟨(1 + a).toNat, by omega⟩
    simp only [spec_l08DrawOk.l0]
    rw [if_neg (by omega), q1, bind_some_, w64 (1 + a) (by omega) (by omega), hm]
    exact drawHead_l1 c hc fc st x y (by omega) (by omega) (by rw [hl]; exact hr) hf h7 h8 m k [] s1 e1 (by simp; omega) (by simp; omega) (by omega) (by omega) (by simp)
  | succ d ih =>
    intro k i fc st s e hi hk hl hst hr hf hs
    obtain ⟨k, rfl⟩ : ∃ m, k = m + 1 := ⟨k - 1, by omega⟩
    obtain ⟨a, s1, e1, q1, a1, q2⟩ := pick_in c hc s e 8 (by omega) (by omega)
    obtain ⟨b, s2, e2, q3, q4⟩ := one_in c hc s1 e1 2 (by omega) (by omega)
    have hf2 : ∀ v ∈ fc ++ [a], 0 ≤ v ∧ v ≤ 100 := by
      intro v hv
      rcases List.mem_append.mp hv with h | h
      · exact hf v h
      · rw [List.mem_singleton] at h; omega
    have hl2 : (fc ++ [a]).length = i + 1 := by simp; omega
    have hr2 : rz st 0 ((i + 1 : Nat) : Int) := rz_up hr (by omega)
    simp only [spec_l08DrawOk.l0]
    rw [if_pos (by omega), q1, bind_some_, if_pos (by omega), bind_some_, w64s i (by omega)]
    by_cases h1 : (st.length : Int) < 5
    · rw [if_pos h1, q3, bind_some_]
      cases b with
      | true =>
        rw [if_pos rfl, if_pos (by omega)]
        exact ih k (i + 1) _ _ s2 e2 (by omega) (by omega) hl2 (by simp; omega) (rz_app hr (by omega) (by omega) (by omega)) hf2 (by omega)
      | false =>
        rw [if_neg (by simp)]
        exact ih k (i + 1) _ _ s2 e2 (by omega) (by omega) hl2 hst hr2 hf2 (by omega)
    · rw [if_neg h1]
      exact ih k (i + 1) _ _ s1 e1 (by omega) (by omega) hl2 hst hr2 hf2 (by omega)
theorem drawHead_is (c : List Int) (hc : ∀ x ∈ c, (Lit.int .u8 x).wf = true) (k : Nat) (hk : 100 ≤ k) : ∃ h, spec_R8Head.f k c = some h ∧ hdFine h := by
  unfold spec_R8Head.f spec_l00From.f spec_l08DrawOk.f
  obtain ⟨a, s1, e1, q1, a1, q2⟩ := pick_in c hc 0 0 20 (by omega) (by omega)
  obtain ⟨b, s2, e2, q3, b1, q4⟩ := pick_in c hc s1 e1 8 (by omega) (by omega)
  obtain ⟨n, s3, e3, q5, n1, q6⟩ := pick_in c hc s2 e2 12 (by omega) (by omega)
  obtain ⟨o, s4, e4, q7, q8⟩ := one_in c hc s3 e3 14 (by omega) (by omega)
  simp only [bind_some_, q1, q3, q5, q7]
  obtain ⟨k, rfl⟩ : ∃ m, k = m + 1 := ⟨k - 1, by omega⟩
  cases o with
  | true =>
    rw [if_pos rfl]
    simp only [spec_l08DrawOk.j0]
    obtain ⟨h, s', e', g1, g2⟩ := drawHead_l0 c hc a b (by omega) (by omega) 60 (by omega) 60 k 0 [] [] s4 e4 (by omega) (by omega) rfl (by simp) (rz_nil _ _) (by simp) (by omega)
    rw [show ((60 : Nat) : Int) = 60 from rfl, show ((0 : Nat) : Int) = 0 from rfl] at g1
    rw [g1, bind_some_]
    exact ⟨h, rfl, g2⟩
  | false =>
    rw [if_neg (by simp)]
    obtain ⟨m, hm⟩ : ∃ m : Nat, n = m := ⟨n.toNat, by omega⟩
    subst hm
    simp only [spec_l08DrawOk.j0]
    obtain ⟨h, s', e', g1, g2⟩ := drawHead_l0 c hc a b (by omega) (by omega) m (by omega) m k 0 [] [] s4 e4 (by omega) (by omega) rfl (by simp) (rz_nil _ _) (by simp) (by omega)
    rw [show ((0 : Nat) : Int) = 0 from rfl] at g1
    rw [g1, bind_some_]
    exact ⟨h, rfl, g2⟩

end Go.Proofs.Ytfcadpkhmkjibaa.P
/- What a law draws is a plan of its head. -/
namespace Go.Proofs.Ytfcadpkhmkjibaa.P
open Go.RowKit Go.Proofs.Ytfcadpkhmkjibaa.P Go.Proofs.YtfcadpkhmkjibaaW.PrintWords Go.Proofs.YtfcadpkhmkjibaaW.PrintLast Go.Proofs.YtfcadpkhmkjibaaW.PrintMore
set_option linter.unusedVariables false
set_option linter.unusedSimpArgs false
def pr (n : Nat) (st : List Int) (p : List S49) (i : Nat) : Prop :=
  (∀ j : Nat, j < p.length → ((rd_T49 p (j : Int)).f0 ∈ st ∧ (rd_T49 p (j : Int)).f1.length ≠ 0 ∧ rises (rd_T49 p (j : Int)).f1 0 ((n : Int) - 1) = true ∧ (rd_T49 p (j : Int)).f1.length ≤ 1048576) ∧ ∃ q : Nat, q < i ∧ (rd_T49 p (j : Int)).f0 = rd st (q : Int)) ∧
  (∀ j : Nat, j + 1 < p.length → (rd_T49 p (j : Int)).f0 < (rd_T49 p ((j + 1 : Nat) : Int)).f0)
theorem pr_nil (n : Nat) (st : List Int) (i : Nat) : pr n st [] i := ⟨fun j h => by simp at h, fun j h => by simp at h⟩
theorem pr_up {n : Nat} {st : List Int} {p : List S49} {i : Nat} (h : pr n st p i) : pr n st p (i + 1) := ⟨fun j hj => by
  obtain ⟨a, q, b, c⟩ := h.1 j hj
  exact ⟨a, q, by omega, c⟩, h.2⟩
theorem rdStop_app (l : List S49) (g : S49) (i : Nat) (hi : i < (l ++ [g]).length) : rd_T49 (l ++ [g]) i = if i < l.length then rd_T49 l i else g := by
  rw [rdStop_at _ i hi]
  by_cases h : i < l.length
  · rw [if_pos h, List.getElem_append_left h, rdStop_at l i h]
  · rw [if_neg h, List.getElem_append_right (by omega)]
    simp
theorem pr_app {n : Nat} {st : List Int} {lo hi : Int} (hst : rz st lo hi) {p : List S49} {i : Nat} (h : pr n st p i) (hi2 : i < st.length) (ch : List Int) (h1 : ch.length ≠ 0) (h2 : rises ch 0 ((n : Int) - 1) = true) (h3 : ch.length ≤ 1048576) : pr n st (p ++ [⟨rd st (i : Int), ch⟩]) (i + 1) := by
  constructor
  · intro j hj
    have hj2 : j < p.length + 1 := by rw [List.length_append, List.length_singleton] at hj; exact hj
    rw [rdStop_app p _ j hj]
    by_cases e : j < p.length
    · rw [if_pos e]
      obtain ⟨a, q, b, c⟩ := h.1 j e
      exact ⟨a, q, by omega, c⟩
    · rw [if_neg e]
      exact ⟨⟨by dsimp only; rw [rd_at st i hi2]; exact List.getElem_mem hi2, h1, h2, h3⟩, i, by omega, rfl⟩
  · intro j hj
    have hj2 : j + 1 < p.length + 1 := by rw [List.length_append, List.length_singleton] at hj; exact hj
    rw [rdStop_app p _ j (by omega), rdStop_app p _ (j + 1) hj, if_pos (by omega)]
    by_cases e : j + 1 < p.length
    · rw [if_pos e]
      exact h.2 j e
    · rw [if_neg e]
      obtain ⟨_, q, b, c⟩ := h.1 j (by omega)
      rw [c]
      have := rz_lt hst q (i - q - 1) (by omega)
      rw [show q + 1 + (i - q - 1) = i by omega] at this
      exact this
theorem pr_ok {n : Nat} {st : List Int} {p : List S49} {i : Nat} (hn : n ≤ 1000) (hp : p.length ≤ 1048576) (h : pr n st p i) : planOk n st p = true ∧ shortS p := by
  constructor
  · unfold planOk
    rw [upTo_iff]
    intro j _ hj
    obtain ⟨⟨a, b, c, _⟩, _⟩ := h.1 j (by omega)
    unfold stopOk
    rw [w64 _ (by omega) (by omega), c]
    simp only [Bool.and_eq_true, Bool.or_eq_true, decide_eq_true_eq, Bool.not_eq_true', decide_eq_false_iff_not]
    refine ⟨a, by omega, trivial, ?_⟩
    by_cases e : j = 0
    · exact .inl e
    · right
      obtain ⟨m, rfl⟩ : ∃ m, j = m + 1 := ⟨j - 1, by omega⟩
      exact h.2 m (by omega)
  · refine ⟨hp, ?_⟩
    intro s hs
    obtain ⟨j, hj, rfl⟩ := List.getElem_of_mem hs
    obtain ⟨⟨_, _, _, d⟩, _⟩ := h.1 j hj
    rw [rdStop_at p j hj] at d
    exact d
theorem drawPlan_l1 (c : List Int) (hc : ∀ x ∈ c, (Lit.int .u8 x).wf = true) (cs : List S34) (fc st : List Int) (x y : Int) (hcs : cs.length ≤ 5) (hst : rz st 0 fc.length) (Q : List S49 → Prop) (i : Nat) (hi : i < st.length) (p : List S49) (hpl : p.length ≤ i) (hi2 : st.length ≤ 8) (hp : pr cs.length st p i) (S : Int) (hS : 0 ≤ S ∧ S ≤ 20000) (B : Nat)
    (hcont : ∀ (k : Nat) (p' : List S49) (s e : Int), B ≤ k → p'.length ≤ i + 1 → pr cs.length st p' (i + 1) → (0 ≤ s ∧ s ≤ S) → ∃ r, spec_R8Plan.l0 k p' ((i + 1 : Nat) : Int) cs fc st x y c s e = some r ∧ Q r) :
    ∀ (d k j : Nat) (ch : List Int) (s e : Int), j + d = cs.length → B + d < k → rz ch 0 j → ch.length ≤ j → (0 ≤ s ∧ s + 2 * (d : Int) ≤ S) → ∃ r, spec_R8Plan.l1 k p i ch j cs fc st x y c s e = some r ∧ Q r := by
  intro d
  induction d with
  | zero =>
    intro k j ch s e hj hk hr hl hs
    obtain ⟨k, rfl⟩ : ∃ m, k = m + 1 := ⟨k - 1, by omega⟩
    simp only [spec_R8Plan.l1]
    rw [if_neg (by omega), w64s i (by omega)]
    by_cases h1 : (ch.length : Int) > 0
    · rw [if_pos h1, if_pos (by omega), if_pos (by omega), if_pos (by omega)]
      have hr2 := rz_rises hr
      rw [show j = cs.length by omega] at hr2
      exact hcont k _ s e (by omega) (by simp; omega) (pr_app hst hp hi ch (by omega) hr2 (by omega)) (by omega)
    · rw [if_neg h1]
      exact hcont k p s e (by omega) (by omega) (pr_up hp) (by omega)
  | succ d ih =>
    intro k j ch s e hj hk hr hl hs
    obtain ⟨k, rfl⟩ : ∃ m, k = m + 1 := ⟨k - 1, by omega⟩
    obtain ⟨b, s1, e1, q1, q2⟩ := one_in c hc s e 3 (by omega) (by omega)
    simp only [spec_R8Plan.l1]
    rw [if_pos (by omega), q1, bind_some_, w64s j (by omega)]
    cases b with
    | true =>
      rw [if_pos rfl]
      exact ih k (j + 1) ch s1 e1 (by omega) (by omega) (rz_up hr (by omega)) (by omega) (by omega)
    | false =>
      rw [if_neg (by simp), if_pos (by omega)]
      exact ih k (j + 1) _ s1 e1 (by omega) (by omega) (rz_app hr (by omega) (by omega) (by omega)) (by simp; omega) (by omega)
theorem drawPlan_l0 (c : List Int) (hc : ∀ x ∈ c, (Lit.int .u8 x).wf = true) (cs : List S34) (fc st : List Int) (x y : Int) (hcs : cs.length ≤ 5) (hst : rz st 0 fc.length) (hi2 : st.length ≤ 8) :
    ∀ (d k i : Nat) (p : List S49) (s e : Int), i + d = st.length → 20 * d < k → p.length ≤ i → pr cs.length st p i → (0 ≤ s ∧ s + 20 * (d : Int) ≤ 20000) → ∃ r, spec_R8Plan.l0 k p i cs fc st x y c s e = some r ∧ (planOk cs.length st r = true ∧ shortS r) := by
  intro d
  induction d with
  | zero =>
    intro k i p s e hi hk hl hp hs
    obtain ⟨k, rfl⟩ : ∃ m, k = m + 1 := ⟨k - 1, by omega⟩
    simp only [spec_R8Plan.l0]
    rw [if_neg (by omega)]
    exact ⟨p, rfl, pr_ok (by omega) (by omega) hp⟩
  | succ d ih =>
    intro k i p s e hi hk hl hp hs
    obtain ⟨k, rfl⟩ : ∃ m, k = m + 1 := ⟨k - 1, by omega⟩
    obtain ⟨b, s1, e1, q1, q2⟩ := one_in c hc s e 4 (by omega) (by omega)
    simp only [spec_R8Plan.l0]
    rw [if_pos (by omega), q1, bind_some_, w64s i (by omega)]
    cases b with
    | true =>
      rw [if_pos rfl]
      exact ih k (i + 1) p s1 e1 (by omega) (by omega) (by omega) (pr_up hp) (by omega)
    | false =>
      rw [if_neg (by simp)]
      exact drawPlan_l1 c hc cs fc st x y hcs hst _ i (by omega) p hl hi2 hp (20000 - 20 * (d : Int)) (by omega) (20 * d + 1) (fun k2 p2 s2 e2 g1 g2 g3 g4 => ih k2 (i + 1) p2 s2 e2 (by omega) (by omega) g2 g3 (by omega)) cs.length k 0 [] s1 e1 (by omega) (by omega) (rz_nil _ _) (by simp) (by omega)
theorem drawPlan_is (c : List Int) (hc : ∀ x ∈ c, (Lit.int .u8 x).wf = true) (cs : List S34) (fc st : List Int) (x y : Int) (h : hdOk cs fc st x y = true) (hst : rz st 0 fc.length) (k : Nat) (hk : 200 ≤ k) : ∃ r, spec_R8Plan.f k c cs fc st x y = some r ∧ (planOk cs.length st r = true ∧ shortS r) := by
  have hin := hdOk_in h
  unfold spec_R8Plan.f spec_l00From.f
  rw [bind_some_]
  exact drawPlan_l0 c hc cs fc st x y (by omega) hst (by omega) st.length k 0 [] 0 0 (by omega) (by omega) (by simp) (pr_nil _ _ _) (by omega)

end Go.Proofs.Ytfcadpkhmkjibaa.P
