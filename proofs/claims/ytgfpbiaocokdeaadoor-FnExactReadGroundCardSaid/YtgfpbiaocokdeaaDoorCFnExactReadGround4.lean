/- What the claim of FnExactReadGround bears, part 4: functions of the program as plain Lean functions, with proofs that the code comes to their answers, and lemmas on them. -/
import Derived.Test.YtgfpbiaocokdeaaDoorCFnExactReadGround0
import Derived.Test.YtgfpbiaocokdeaaDoorCFnExactReadGround2
import Derived.Test.YtgfpbiaocokdeaaDoorCFnExactReadGround3
import Derived.Test.YtgfpbiaocokdeaaDoorCFnExactReadGround1
namespace Go.Proofs.YtgfpbiaocokdeaaDoor.P
open Go.RowKit Go.Proofs.YtgfpbiaocokdeaaDoorW.PrintWords Go.Proofs.YtgfpbiaocokdeaaDoorW.PrintLast Go.Proofs.YtgfpbiaocokdeaaDoorW.PrintMore
attribute [local go_sem] max2_int min2_int max_two min_two max_three min_three max_four min_four   -- for this text's walks alone
set_option linter.unusedVariables false
set_option linter.unusedSimpArgs false

def laws_heldInt64S.l0 : Nat → List Int → Int → Int → Option (Int)
 | 0, _, _, _ => none
 | k + 1, x0, x1, x5 => if x5 < (x0.length : Int) then (if 0 ≤ x5 then (if (rd x0 x5) = x1 then (laws_heldInt64S.l0 k x0 (wrap64 (x1 + 1)) (wrap64 (x5 + 1))) else (some (-1))) else (none)) else (some x1)
def laws_heldInt64S.f (k : Nat) (l0 : List Int) (a1 : Int) : Option (Int) := laws_heldInt64S.l0 k l0 a1 0
set_option maxHeartbeats 8000000 in
set_option maxRecDepth 100000 in
theorem laws_heldInt64S.calls (k : Nat) (A0 : Option Addr) (c0 : Nat) (l0 : List Int) (a1 : Int) (r : Int) (w : World) (hr0 : Kd.C (Kd.int .i64) w A0 l0.length l0) (hc0 : l0.length ≤ c0) (h : laws_heldInt64S.f k l0 a1 = some r) :
  Calls Tryd.prog 32 #[.slice A0 l0.length c0, .int .i64 a1] w fun e w' => e = .returned (.int .i64 r) ∧ Drawn0 w w' := by
 have HR0 := Aside0.mk hr0
 have HC0 := Aside0.mk hc0
 clear hr0 hc0
 have H : (laws_heldInt64S.l0 k l0 a1 0) = some r := h
 clear h
 have H' := Aside0.mk H
 clear H
 go_enter Tryd.func32, Tryd.ntmps32
 go_wp2
 go_loopg [1, 5] k (fun kq v1 v5 w' => ∃ (x1_1 : Int) (x5_1 : Int), v1 = .int .i64 x1_1 ∧ v5 = .int .i64 x5_1 ∧ Aside0 (laws_heldInt64S.l0 kq l0 x1_1 x5_1 = some r) ∧ Aside0 (kq ≤ k) ∧ Drawn0 w w')
 case atStart => exact ⟨(a1), (0), (by first | rfl | (simp; done) | (simp [*]; done) | (simp [Int.tdiv_eq_ediv_of_nonneg, *]; done)), (by first | rfl | (simp; done) | (simp [*]; done) | (simp [Int.tdiv_eq_ediv_of_nonneg, *]; done)), H', ⟨Nat.le_refl _⟩, by repeat (first | exact Drawn0.refl _ | apply Drawn0.step)⟩
 case round =>
  clear H'
  try clear p2
  obtain ⟨x1_1, x5_1, rfl, rfl, HA, HK1, ⟨m1, rfl⟩⟩ := hrel
  cases gk with
  | zero => exact absurd HA.out (by simp [laws_heldInt64S.l0])
  | succ k1 =>
   have H := HA.out
   clear HA
   simp only [laws_heldInt64S.l0] at H
   by_cases c3 : x5_1 < (l0.length : Int)
   ·rw [if_pos c3] at H
    have c3b0 : decide (x5_1 < (l0.length : Int)) = true := decide_eq_true c3
    clear c3
    by_cases c4 : 0 ≤ x5_1
    ·rw [if_pos c4] at H
     have c4b0 : decide (0 ≤ x5_1) = true := decide_eq_true c4
     clear c4
     by_cases c5 : (rd l0 x5_1) = x1_1
     ·rw [if_pos c5] at H
      have c5b0 : ((rd l0 x5_1) == x1_1) = true := beq_iff_eq.mpr c5
      have c5b1 : ((rd l0 x5_1) != x1_1) = false := bne_eq_false_iff_eq.mpr c5
      clear c5
      have H' := Aside0.mk H
      clear H
      have p327 : 0 ≤ (x5_1 : Int) := of_decide_eq_true (by first | (with_reducible assumption) | assumption)
      have q327 : x5_1 < (l0.length : Int) := of_decide_eq_true (by first | (with_reducible assumption) | assumption)
      obtain ⟨ad327, e327, hx327_0⟩ := Kd.at_int HR0.out x5_1 p327 q327
      cases e327
      replace p327 := eq_true p327
      replace q327 := eq_true q327
      go_wp2
      go_roundg k1
      case measure => have := HK1.out; omega
      case rel => exact ⟨(wrap64 (x1_1 + 1)), (wrap64 (x5_1 + 1)), (by first | rfl | (simp; done) | (simp [*]; done) | (simp [Int.tdiv_eq_ediv_of_nonneg, *]; done)), (by first | rfl | (simp; done) | (simp [*]; done) | (simp [Int.tdiv_eq_ediv_of_nonneg, *]; done)), H', ⟨by have := HK1.out; omega⟩, by repeat (first | exact Drawn0.refl _ | apply Drawn0.step)⟩
     ·rw [if_neg c5] at H
      have c5b0 : ((rd l0 x5_1) == x1_1) = false := beq_eq_false_iff_ne.mpr c5
      have c5b1 : ((rd l0 x5_1) != x1_1) = true := bne_iff_ne.mpr c5
      obtain rfl := Option.some.inj H
      have p327 : 0 ≤ (x5_1 : Int) := of_decide_eq_true (by first | (with_reducible assumption) | assumption)
      have q327 : x5_1 < (l0.length : Int) := of_decide_eq_true (by first | (with_reducible assumption) | assumption)
      obtain ⟨ad327, e327, hx327_0⟩ := Kd.at_int HR0.out x5_1 p327 q327
      cases e327
      replace p327 := eq_true p327
      replace q327 := eq_true q327
      go_wp2
      go_ret
      exact ⟨by first | rfl | (simp; done) | (simp [*]; done) | (simp [Int.tdiv_eq_ediv_of_nonneg, *]; done), by repeat (first | exact Drawn0.refl _ | apply Drawn0.step)⟩
    ·rw [if_neg c4] at H
     exact absurd H (by simp)
   ·rw [if_neg c3] at H
    have c3b0 : decide (x5_1 < (l0.length : Int)) = false := decide_eq_false c3
    clear c3
    obtain rfl := Option.some.inj H
    go_wp2
    go_ret
    exact ⟨by first | rfl | (simp; done) | (simp [*]; done) | (simp [Int.tdiv_eq_ediv_of_nonneg, *]; done), by repeat (first | exact Drawn0.refl _ | apply Drawn0.step)⟩

def laws_heldHoleS.l0 : Nat → List (S49) → Int → Int → Option (Int)
 | 0, _, _, _ => none
 | k + 1, x0, x1, x5 => if x5 < (x0.length : Int) then (if 0 ≤ x5 then (if ((rd_T49 x0 x5).f0) = x1 then ((laws_heldInt64S.f k ((rd_T49 x0 x5).f1) (wrap64 (x1 + 1))).bind fun t330 => (if t330 < 0 then (some (-1)) else (laws_heldHoleS.l0 k x0 t330 (wrap64 (x5 + 1))))) else (some (-1))) else (none)) else (some x1)
def laws_heldHoleS.f (k : Nat) (l0 : List (S49)) (a1 : Int) : Option (Int) := laws_heldHoleS.l0 k l0 a1 0
set_option maxHeartbeats 8000000 in
set_option maxRecDepth 100000 in
theorem laws_heldHoleS.calls (k : Nat) (A0 : Option Addr) (c0 : Nat) (l0 : List (S49)) (a1 : Int) (r : Int) (w : World) (hr0 : Kd.C k49 w A0 l0.length l0) (hc0 : l0.length ≤ c0) (h : laws_heldHoleS.f k l0 a1 = some r) :
  Calls Tryd.prog 33 #[.slice A0 l0.length c0, .int .i64 a1] w fun e w' => e = .returned (.int .i64 r) ∧ Drawn0 w w' := by
 have HR0 := Aside0.mk hr0
 have HC0 := Aside0.mk hc0
 clear hr0 hc0
 have H : (laws_heldHoleS.l0 k l0 a1 0) = some r := h
 clear h
 have H' := Aside0.mk H
 clear H
 go_enter Tryd.func33, Tryd.ntmps33
 go_wp2
 go_loopg [1, 5] k (fun kq v1 v5 w' => ∃ (x1_1 : Int) (x5_1 : Int), v1 = .int .i64 x1_1 ∧ v5 = .int .i64 x5_1 ∧ Aside0 (laws_heldHoleS.l0 kq l0 x1_1 x5_1 = some r) ∧ Aside0 (kq ≤ k) ∧ Drawn0 w w')
 case atStart => exact ⟨(a1), (0), (by first | rfl | (simp; done) | (simp [*]; done) | (simp [Int.tdiv_eq_ediv_of_nonneg, *]; done)), (by first | rfl | (simp; done) | (simp [*]; done) | (simp [Int.tdiv_eq_ediv_of_nonneg, *]; done)), H', ⟨Nat.le_refl _⟩, by repeat (first | exact Drawn0.refl _ | apply Drawn0.step)⟩
 case round =>
  clear H'
  try clear p2
  obtain ⟨x1_1, x5_1, rfl, rfl, HA, HK1, ⟨m1, rfl⟩⟩ := hrel
  cases gk with
  | zero => exact absurd HA.out (by simp [laws_heldHoleS.l0])
  | succ k1 =>
   have H := HA.out
   clear HA
   simp only [laws_heldHoleS.l0] at H
   by_cases c3 : x5_1 < (l0.length : Int)
   ·rw [if_pos c3] at H
    have c3b0 : decide (x5_1 < (l0.length : Int)) = true := decide_eq_true c3
    clear c3
    by_cases c4 : 0 ≤ x5_1
    ·rw [if_pos c4] at H
     have c4b0 : decide (0 ≤ x5_1) = true := decide_eq_true c4
     clear c4
     by_cases c5 : ((rd_T49 l0 x5_1).f0) = x1_1
     ·rw [if_pos c5] at H
      have c5b0 : (((rd_T49 l0 x5_1).f0) == x1_1) = true := beq_iff_eq.mpr c5
      have c5b1 : (((rd_T49 l0 x5_1).f0) != x1_1) = false := bne_eq_false_iff_eq.mpr c5
      clear c5
      replace H := Option.bind_eq_some_iff.mp H
      obtain ⟨t330, A60, H⟩ := H
      replace H : (if t330 < 0 then (some (-1)) else (laws_heldHoleS.l0 k1 l0 t330 (wrap64 (x5_1 + 1)))) = some r := H
      have A6 := Aside0.mk A60
      clear A60
      by_cases c7 : t330 < 0
      ·rw [if_pos c7] at H
       have c7b0 : decide (t330 < 0) = true := decide_eq_true c7
       clear c7
       obtain rfl := Option.some.inj H
       have p328 : 0 ≤ (x5_1 : Int) := of_decide_eq_true (by first | (with_reducible assumption) | assumption)
       have q328 : x5_1 < (l0.length : Int) := of_decide_eq_true (by first | (with_reducible assumption) | assumption)
       obtain ⟨ad328, A328_1, c328_1, e328, hx328_0, hx328_1, hl328_1, hi328_1⟩ := at_T49 HR0.out x5_1 p328 q328
       cases e328
       have HR328_1 := Aside0.mk hi328_1
       have HC328_1 := Aside0.mk hl328_1
       clear hi328_1 hl328_1
       replace p328 := eq_true p328
       replace q328 := eq_true q328
       have p329 : 0 ≤ (x5_1 : Int) := of_decide_eq_true (by first | (with_reducible assumption) | assumption)
       have q329 : x5_1 < (l0.length : Int) := of_decide_eq_true (by first | (with_reducible assumption) | assumption)
       obtain ⟨ad329, A329_1, c329_1, e329, hx329_0, hx329_1, hl329_1, hi329_1⟩ := at_T49 HR0.out x5_1 p329 q329
       obtain rfl : ad328 = ad329 := (by injection e329)
       have HR329_1 := Aside0.mk hi329_1
       have HC329_1 := Aside0.mk hl329_1
       clear hi329_1 hl329_1
       replace p329 := eq_true p329
       replace q329 := eq_true q329
       have ea_ := Option.some.inj (hx328_1.symm.trans hx329_1)
       injection ea_ with ea_ en_ ec_
       subst ea_
       subst ec_
       clear en_
       go_wp2_with (first | ((with_reducible refine gate_callee (f := 32) rfl ?_); refine goesL_ (some 27) rfl rfl Tryd.func32 (by kernel_rfl) rfl #[.slice A328_1 ((rd_T49 l0 x5_1).f1).length c328_1, .int .i64 (wrap64 (x1_1 + 1))] rfl (by (try simp only [List.map_toArray, List.map_cons, List.map_nil]); first | done | rfl | (simp only [List.length_drop, List.length_take]; rfl)) ?_; (with_reducible refine (laws_heldInt64S.calls k1 _ _ ((rd_T49 l0 x5_1).f1) (wrap64 (x1_1 + 1)) t330 _ ?side1 ?side2 A6.out).mono ?_); (case side1 => repeat (first | exact HR329_1.out | (with_reducible refine Kd.C_alloc ?_ _) | (with_reducible refine Kd.C_drewN ?_ _) | (with_reducible refine Kd.C_drew ?_))); (case side2 => exact HC329_1.out); rintro e w' ⟨rfl, ⟨nd, rfl⟩⟩; refine ⟨_, rfl, ?_⟩))
       go_ret
       exact ⟨by first | rfl | (simp; done) | (simp [*]; done) | (simp [Int.tdiv_eq_ediv_of_nonneg, *]; done), by repeat (first | exact Drawn0.refl _ | apply Drawn0.step)⟩
      ·rw [if_neg c7] at H
       have c7b0 : decide (t330 < 0) = false := decide_eq_false c7
       clear c7
       have H' := Aside0.mk H
       clear H
       have p328 : 0 ≤ (x5_1 : Int) := of_decide_eq_true (by first | (with_reducible assumption) | assumption)
       have q328 : x5_1 < (l0.length : Int) := of_decide_eq_true (by first | (with_reducible assumption) | assumption)
       obtain ⟨ad328, A328_1, c328_1, e328, hx328_0, hx328_1, hl328_1, hi328_1⟩ := at_T49 HR0.out x5_1 p328 q328
       cases e328
       have HR328_1 := Aside0.mk hi328_1
       have HC328_1 := Aside0.mk hl328_1
       clear hi328_1 hl328_1
       replace p328 := eq_true p328
       replace q328 := eq_true q328
       have p329 : 0 ≤ (x5_1 : Int) := of_decide_eq_true (by first | (with_reducible assumption) | assumption)
       have q329 : x5_1 < (l0.length : Int) := of_decide_eq_true (by first | (with_reducible assumption) | assumption)
       obtain ⟨ad329, A329_1, c329_1, e329, hx329_0, hx329_1, hl329_1, hi329_1⟩ := at_T49 HR0.out x5_1 p329 q329
       obtain rfl : ad328 = ad329 := (by injection e329)
       have HR329_1 := Aside0.mk hi329_1
       have HC329_1 := Aside0.mk hl329_1
       clear hi329_1 hl329_1
       replace p329 := eq_true p329
       replace q329 := eq_true q329
       have ea_ := Option.some.inj (hx328_1.symm.trans hx329_1)
       injection ea_ with ea_ en_ ec_
       subst ea_
       subst ec_
       clear en_
       go_wp2_with (first | ((with_reducible refine gate_callee (f := 32) rfl ?_); refine goesL_ (some 27) rfl rfl Tryd.func32 (by kernel_rfl) rfl #[.slice A328_1 ((rd_T49 l0 x5_1).f1).length c328_1, .int .i64 (wrap64 (x1_1 + 1))] rfl (by (try simp only [List.map_toArray, List.map_cons, List.map_nil]); first | done | rfl | (simp only [List.length_drop, List.length_take]; rfl)) ?_; (with_reducible refine (laws_heldInt64S.calls k1 _ _ ((rd_T49 l0 x5_1).f1) (wrap64 (x1_1 + 1)) t330 _ ?side1 ?side2 A6.out).mono ?_); (case side1 => repeat (first | exact HR329_1.out | (with_reducible refine Kd.C_alloc ?_ _) | (with_reducible refine Kd.C_drewN ?_ _) | (with_reducible refine Kd.C_drew ?_))); (case side2 => exact HC329_1.out); rintro e w' ⟨rfl, ⟨nd, rfl⟩⟩; refine ⟨_, rfl, ?_⟩))
       go_roundg k1
       case measure => have := HK1.out; omega
       case rel => exact ⟨(t330), (wrap64 (x5_1 + 1)), (by first | rfl | (simp; done) | (simp [*]; done) | (simp [Int.tdiv_eq_ediv_of_nonneg, *]; done)), (by first | rfl | (simp; done) | (simp [*]; done) | (simp [Int.tdiv_eq_ediv_of_nonneg, *]; done)), H', ⟨by have := HK1.out; omega⟩, by repeat (first | exact Drawn0.refl _ | apply Drawn0.step)⟩
     ·rw [if_neg c5] at H
      have c5b0 : (((rd_T49 l0 x5_1).f0) == x1_1) = false := beq_eq_false_iff_ne.mpr c5
      have c5b1 : (((rd_T49 l0 x5_1).f0) != x1_1) = true := bne_iff_ne.mpr c5
      obtain rfl := Option.some.inj H
      have p328 : 0 ≤ (x5_1 : Int) := of_decide_eq_true (by first | (with_reducible assumption) | assumption)
      have q328 : x5_1 < (l0.length : Int) := of_decide_eq_true (by first | (with_reducible assumption) | assumption)
      obtain ⟨ad328, A328_1, c328_1, e328, hx328_0, hx328_1, hl328_1, hi328_1⟩ := at_T49 HR0.out x5_1 p328 q328
      cases e328
      have HR328_1 := Aside0.mk hi328_1
      have HC328_1 := Aside0.mk hl328_1
      clear hi328_1 hl328_1
      replace p328 := eq_true p328
      replace q328 := eq_true q328
      go_wp2
      go_ret
      exact ⟨by first | rfl | (simp; done) | (simp [*]; done) | (simp [Int.tdiv_eq_ediv_of_nonneg, *]; done), by repeat (first | exact Drawn0.refl _ | apply Drawn0.step)⟩
    ·rw [if_neg c4] at H
     exact absurd H (by simp)
   ·rw [if_neg c3] at H
    have c3b0 : decide (x5_1 < (l0.length : Int)) = false := decide_eq_false c3
    clear c3
    obtain rfl := Option.some.inj H
    go_wp2
    go_ret
    exact ⟨by first | rfl | (simp; done) | (simp [*]; done) | (simp [Int.tdiv_eq_ediv_of_nonneg, *]; done), by repeat (first | exact Drawn0.refl _ | apply Drawn0.step)⟩

def laws_heldGround.f (k : Nat) (l0_0 : List Int) (l0_1 : List (S49)) (a1 : Int) : Option (Int) := (laws_heldInt64S.f k l0_0 a1).bind fun t332 => (if t332 < 0 then (some (-1)) else ((laws_heldHoleS.f k l0_1 t332).bind fun t333 => (if t333 < 0 then (some (-1)) else (some t333))))
set_option maxHeartbeats 8000000 in
set_option maxRecDepth 100000 in
theorem laws_heldGround.calls (k : Nat) (A0_0 : Option Addr) (c0_0 : Nat) (l0_0 : List Int) (A0_1 : Option Addr) (c0_1 : Nat) (l0_1 : List (S49)) (a1 : Int) (r : Int) (w : World) (hr0_0 : Kd.C (Kd.int .i64) w A0_0 l0_0.length l0_0) (hc0_0 : l0_0.length ≤ c0_0) (hr0_1 : Kd.C k49 w A0_1 l0_1.length l0_1) (hc0_1 : l0_1.length ≤ c0_1) (h : laws_heldGround.f k l0_0 l0_1 a1 = some r) :
  Calls Tryd.prog 13 #[.agg #[.slice A0_0 l0_0.length c0_0, .slice A0_1 l0_1.length c0_1], .int .i64 a1] w fun e w' => e = .returned (.int .i64 r) ∧ Below w.heap.size w w' := by
 have hu31 := Tryd.underlying31
 have HR0_0 := Aside0.mk hr0_0
 have HC0_0 := Aside0.mk hc0_0
 clear hr0_0 hc0_0
 have HR0_1 := Aside0.mk hr0_1
 have HC0_1 := Aside0.mk hc0_1
 clear hr0_1 hc0_1
 have HB := Aside0.mk (Below.refl w.heap.size w)
 have H : ((laws_heldInt64S.f k l0_0 a1).bind fun t332 => (if t332 < 0 then (some (-1)) else ((laws_heldHoleS.f k l0_1 t332).bind fun t333 => (if t333 < 0 then (some (-1)) else (some t333))))) = some r := h
 clear h
 replace H := Option.bind_eq_some_iff.mp H
 obtain ⟨t332, A30, H⟩ := H
 replace H : (if t332 < 0 then (some (-1)) else ((laws_heldHoleS.f k l0_1 t332).bind fun t333 => (if t333 < 0 then (some (-1)) else (some t333)))) = some r := H
 have A3 := Aside0.mk A30
 clear A30
 by_cases c4 : t332 < 0
 ·rw [if_pos c4] at H
  have c4b0 : decide (t332 < 0) = true := decide_eq_true c4
  clear c4
  obtain rfl := Option.some.inj H
  go_enter Tryd.func13, Tryd.ntmps13
  go_wp2_with (first | ((with_reducible refine gate_dst (N := 2) rfl ?_); refine box_event ?hg (N := 2) ?hd (cs := #[.slice A0_0 l0_0.length c0_0, .slice A0_1 l0_1.length c0_1]) (t := 31) ?hr ?_; (case hd => rfl); (case hg => rfl); (case hr => first | (go_simp; done) | (go_simp; rfl)); intro gb331 hg w5 hbox hb; have n0_ := Aside0.mk (below_step (by repeat (first | (with_reducible first | exact HB.out | apply below_alloc | apply pw_below_drewN | apply below_drew1) | exact HB.out)) hb); have n1_ := Aside0.mk (hbox); have n2_ := Aside0.mk ((by rw [hg]; exact (below_size (by repeat (first | (with_reducible first | exact HB.out | apply below_alloc | apply pw_below_drewN | apply below_drew1) | exact HB.out))) : w.heap.size ≤ gb331)); have n3_ := Aside0.mk ((by rw [hg]; exact (below_size (by repeat (first | (with_reducible first | exact HB.out | apply below_alloc | apply pw_below_drewN | apply below_drew1) | exact HB.out))) : w.heap.size ≤ gb331)); clear HB; have HB := n0_; have BK331 := n1_; have GW331 := n2_; have GE331 := n3_; clear n0_ n1_ n2_ n3_; clear hb hbox hg; have hcz6_0 : w5.cell? ⟨gb331, 0, none⟩ = some (.slice A0_0 l0_0.length c0_0) := (blk_cell BK331.out 0).trans rfl; have hcz6_1 : w5.cell? ⟨gb331, 1, none⟩ = some (.slice A0_1 l0_1.length c0_1) := (blk_cell BK331.out 1).trans rfl; have hfz6_0 := blk_frozen BK331.out 0; have hfz6_1 := blk_frozen BK331.out 1) | ((with_reducible refine gate_callee (f := 32) rfl ?_); refine goesL_ (some 8) rfl rfl Tryd.func32 (by kernel_rfl) rfl #[.slice A0_0 l0_0.length c0_0, .int .i64 a1] rfl (by (try simp only [List.map_toArray, List.map_cons, List.map_nil]); first | done | rfl | (simp only [List.length_drop, List.length_take]; rfl)) ?_; (with_reducible refine (laws_heldInt64S.calls k _ _ l0_0 a1 t332 _ ?side1 ?side2 A3.out).mono ?_); (case side1 => repeat (first | exact (Kd.C_below HR0_0.out HB.out) | (with_reducible refine Kd.C_alloc ?_ _) | (with_reducible refine Kd.C_drewN ?_ _) | (with_reducible refine Kd.C_drew ?_))); (case side2 => exact HC0_0.out); rintro e w' ⟨rfl, ⟨nd, rfl⟩⟩; refine ⟨_, rfl, ?_⟩))
  go_ret
  exact ⟨by first | rfl | (simp [errW_none, errW_some] <;> rfl) | (simp [*, errW_none, errW_some] <;> rfl) | (simp [Int.tdiv_eq_ediv_of_nonneg, *]; done), by repeat (first | (with_reducible first | exact HB.out | apply below_alloc | apply pw_below_drewN | apply below_drew1 | refine below_set ?_ GE331.out) | exact HB.out)⟩
 ·rw [if_neg c4] at H
  have c4b0 : decide (t332 < 0) = false := decide_eq_false c4
  clear c4
  replace H := Option.bind_eq_some_iff.mp H
  obtain ⟨t333, A70, H⟩ := H
  replace H : (if t333 < 0 then (some (-1)) else (some t333)) = some r := H
  have A7 := Aside0.mk A70
  clear A70
  by_cases c8 : t333 < 0
  ·rw [if_pos c8] at H
   have c8b0 : decide (t333 < 0) = true := decide_eq_true c8
   clear c8
   obtain rfl := Option.some.inj H
   go_enter Tryd.func13, Tryd.ntmps13
   go_wp2_with (first | ((with_reducible refine gate_dst (N := 2) rfl ?_); refine box_event ?hg (N := 2) ?hd (cs := #[.slice A0_0 l0_0.length c0_0, .slice A0_1 l0_1.length c0_1]) (t := 31) ?hr ?_; (case hd => rfl); (case hg => rfl); (case hr => first | (go_simp; done) | (go_simp; rfl)); intro gb331 hg w9 hbox hb; have n0_ := Aside0.mk (below_step (by repeat (first | (with_reducible first | exact HB.out | apply below_alloc | apply pw_below_drewN | apply below_drew1) | exact HB.out)) hb); have n1_ := Aside0.mk (hbox); have n2_ := Aside0.mk ((by rw [hg]; exact (below_size (by repeat (first | (with_reducible first | exact HB.out | apply below_alloc | apply pw_below_drewN | apply below_drew1) | exact HB.out))) : w.heap.size ≤ gb331)); have n3_ := Aside0.mk ((by rw [hg]; exact (below_size (by repeat (first | (with_reducible first | exact HB.out | apply below_alloc | apply pw_below_drewN | apply below_drew1) | exact HB.out))) : w.heap.size ≤ gb331)); clear HB; have HB := n0_; have BK331 := n1_; have GW331 := n2_; have GE331 := n3_; clear n0_ n1_ n2_ n3_; clear hb hbox hg; have hcz10_0 : w9.cell? ⟨gb331, 0, none⟩ = some (.slice A0_0 l0_0.length c0_0) := (blk_cell BK331.out 0).trans rfl; have hcz10_1 : w9.cell? ⟨gb331, 1, none⟩ = some (.slice A0_1 l0_1.length c0_1) := (blk_cell BK331.out 1).trans rfl; have hfz10_0 := blk_frozen BK331.out 0; have hfz10_1 := blk_frozen BK331.out 1) | ((with_reducible refine gate_callee (f := 32) rfl ?_); refine goesL_ (some 8) rfl rfl Tryd.func32 (by kernel_rfl) rfl #[.slice A0_0 l0_0.length c0_0, .int .i64 a1] rfl (by (try simp only [List.map_toArray, List.map_cons, List.map_nil]); first | done | rfl | (simp only [List.length_drop, List.length_take]; rfl)) ?_; (with_reducible refine (laws_heldInt64S.calls k _ _ l0_0 a1 t332 _ ?side1 ?side2 A3.out).mono ?_); (case side1 => repeat (first | exact (Kd.C_below HR0_0.out HB.out) | (with_reducible refine Kd.C_alloc ?_ _) | (with_reducible refine Kd.C_drewN ?_ _) | (with_reducible refine Kd.C_drew ?_))); (case side2 => exact HC0_0.out); rintro e w' ⟨rfl, ⟨nd, rfl⟩⟩; refine ⟨_, rfl, ?_⟩) | ((with_reducible refine gate_callee (f := 33) rfl ?_); refine goesL_ (some 14) rfl rfl Tryd.func33 (by kernel_rfl) rfl #[.slice A0_1 l0_1.length c0_1, .int .i64 t332] rfl (by (try simp only [List.map_toArray, List.map_cons, List.map_nil]); first | done | rfl | (simp only [List.length_drop, List.length_take]; rfl)) ?_; (with_reducible refine (laws_heldHoleS.calls k _ _ l0_1 t332 t333 _ ?side1 ?side2 A7.out).mono ?_); (case side1 => repeat (first | exact (Kd.C_below HR0_1.out (by repeat (first | (with_reducible first | exact HB.out | apply below_alloc | apply pw_below_drewN | apply below_drew1 | refine below_set ?_ GE331.out) | exact HB.out))) | (with_reducible refine Kd.C_alloc ?_ _) | (with_reducible refine Kd.C_drewN ?_ _) | (with_reducible refine Kd.C_drew ?_))); (case side2 => exact HC0_1.out); rintro e w' ⟨rfl, ⟨nd, rfl⟩⟩; refine ⟨_, rfl, ?_⟩))
   go_ret
   exact ⟨by first | rfl | (simp [errW_none, errW_some] <;> rfl) | (simp [*, errW_none, errW_some] <;> rfl) | (simp [Int.tdiv_eq_ediv_of_nonneg, *]; done), by repeat (first | (with_reducible first | exact HB.out | apply below_alloc | apply pw_below_drewN | apply below_drew1 | refine below_set ?_ GE331.out) | exact HB.out)⟩
  ·rw [if_neg c8] at H
   have c8b0 : decide (t333 < 0) = false := decide_eq_false c8
   clear c8
   obtain rfl := Option.some.inj H
   go_enter Tryd.func13, Tryd.ntmps13
   go_wp2_with (first | ((with_reducible refine gate_dst (N := 2) rfl ?_); refine box_event ?hg (N := 2) ?hd (cs := #[.slice A0_0 l0_0.length c0_0, .slice A0_1 l0_1.length c0_1]) (t := 31) ?hr ?_; (case hd => rfl); (case hg => rfl); (case hr => first | (go_simp; done) | (go_simp; rfl)); intro gb331 hg w11 hbox hb; have n0_ := Aside0.mk (below_step (by repeat (first | (with_reducible first | exact HB.out | apply below_alloc | apply pw_below_drewN | apply below_drew1) | exact HB.out)) hb); have n1_ := Aside0.mk (hbox); have n2_ := Aside0.mk ((by rw [hg]; exact (below_size (by repeat (first | (with_reducible first | exact HB.out | apply below_alloc | apply pw_below_drewN | apply below_drew1) | exact HB.out))) : w.heap.size ≤ gb331)); have n3_ := Aside0.mk ((by rw [hg]; exact (below_size (by repeat (first | (with_reducible first | exact HB.out | apply below_alloc | apply pw_below_drewN | apply below_drew1) | exact HB.out))) : w.heap.size ≤ gb331)); clear HB; have HB := n0_; have BK331 := n1_; have GW331 := n2_; have GE331 := n3_; clear n0_ n1_ n2_ n3_; clear hb hbox hg; have hcz12_0 : w11.cell? ⟨gb331, 0, none⟩ = some (.slice A0_0 l0_0.length c0_0) := (blk_cell BK331.out 0).trans rfl; have hcz12_1 : w11.cell? ⟨gb331, 1, none⟩ = some (.slice A0_1 l0_1.length c0_1) := (blk_cell BK331.out 1).trans rfl; have hfz12_0 := blk_frozen BK331.out 0; have hfz12_1 := blk_frozen BK331.out 1) | ((with_reducible refine gate_callee (f := 32) rfl ?_); refine goesL_ (some 8) rfl rfl Tryd.func32 (by kernel_rfl) rfl #[.slice A0_0 l0_0.length c0_0, .int .i64 a1] rfl (by (try simp only [List.map_toArray, List.map_cons, List.map_nil]); first | done | rfl | (simp only [List.length_drop, List.length_take]; rfl)) ?_; (with_reducible refine (laws_heldInt64S.calls k _ _ l0_0 a1 t332 _ ?side1 ?side2 A3.out).mono ?_); (case side1 => repeat (first | exact (Kd.C_below HR0_0.out HB.out) | (with_reducible refine Kd.C_alloc ?_ _) | (with_reducible refine Kd.C_drewN ?_ _) | (with_reducible refine Kd.C_drew ?_))); (case side2 => exact HC0_0.out); rintro e w' ⟨rfl, ⟨nd, rfl⟩⟩; refine ⟨_, rfl, ?_⟩) | ((with_reducible refine gate_callee (f := 33) rfl ?_); refine goesL_ (some 14) rfl rfl Tryd.func33 (by kernel_rfl) rfl #[.slice A0_1 l0_1.length c0_1, .int .i64 t332] rfl (by (try simp only [List.map_toArray, List.map_cons, List.map_nil]); first | done | rfl | (simp only [List.length_drop, List.length_take]; rfl)) ?_; (with_reducible refine (laws_heldHoleS.calls k _ _ l0_1 t332 t333 _ ?side1 ?side2 A7.out).mono ?_); (case side1 => repeat (first | exact (Kd.C_below HR0_1.out (by repeat (first | (with_reducible first | exact HB.out | apply below_alloc | apply pw_below_drewN | apply below_drew1 | refine below_set ?_ GE331.out) | exact HB.out))) | (with_reducible refine Kd.C_alloc ?_ _) | (with_reducible refine Kd.C_drewN ?_ _) | (with_reducible refine Kd.C_drew ?_))); (case side2 => exact HC0_1.out); rintro e w' ⟨rfl, ⟨nd, rfl⟩⟩; refine ⟨_, rfl, ?_⟩))
   go_ret
   exact ⟨by first | rfl | (simp [errW_none, errW_some] <;> rfl) | (simp [*, errW_none, errW_some] <;> rfl) | (simp [Int.tdiv_eq_ediv_of_nonneg, *]; done), by repeat (first | (with_reducible first | exact HB.out | apply below_alloc | apply pw_below_drewN | apply below_drew1 | refine below_set ?_ GE331.out) | exact HB.out)⟩

def laws_FnExactReadGround.f (k : Nat) (a0 : ByteArray) : Option (Bool) :=
 if (a0.size : Int) > 1048576 then some true else
 (spec_ReadGround.f k a0).bind fun bw => (impl_ReadGround.f k a0).bind fun bg =>
 (laws_eqGround.f k bg.1 bg.2.1 bw.1 bw.2.1).bind fun te => if te = true then (if bg.2.2 = bw.2.2 then (
 (laws_markGround.f k bg.1 bg.2.1 1).bind fun bm => (laws_heldGround.f k bm.2.1 bm.2.2 1).bind fun th => if th < 0 then none else if th = bm.1 then some true else none
 ) else none) else none
set_option maxHeartbeats 8000000 in
set_option maxRecDepth 100000 in
theorem laws_FnExactReadGround.calls (k : Nat) (a0 : ByteArray) (r : Bool) (w : World) (hT_ : Tab2 w) (h : laws_FnExactReadGround.f k a0 = some r) :
  Calls Tryd.prog 4 #[.string a0] w fun e w' => e = .returned (.bool r) ∧ Below w.heap.size w w' := by
 have hu31 := Tryd.underlying31
 have HLT_ := Aside0.mk hT_
 clear hT_
 have HB := Aside0.mk (Below.refl w.heap.size w)
 unfold laws_FnExactReadGround.f at h
 by_cases ce : (a0.size : Int) > 1048576
 ·rw [if_pos ce] at h
  obtain rfl := Option.some.inj h
  have c2b0 : decide ((1048576 : Int) < (a0.size : Int)) = true := decide_eq_true ce
  have c2b1 : decide (1048576 < a0.size) = true := decide_eq_true (by omega)
  clear ce h
  go_enter Tryd.func4, Tryd.ntmps4
  go_wp2
  go_ret
  exact ⟨by first | rfl | (simp; done) | (simp [*]; done) | (simp [Int.tdiv_eq_ediv_of_nonneg, *]; done), by repeat (first | (with_reducible first | exact HB.out | apply below_alloc | apply pw_below_drewN | apply below_drew1) | exact HB.out)⟩
 ·rw [if_neg ce] at h
  have c2b0 : decide ((1048576 : Int) < (a0.size : Int)) = false := decide_eq_false ce
  have c2b1 : decide (1048576 < a0.size) = false := decide_eq_false (by omega)
  clear ce
  replace h := Option.bind_eq_some_iff.mp h
  obtain ⟨⟨s0, s1, s2⟩, AW, h⟩ := h
  replace h := Option.bind_eq_some_iff.mp h
  obtain ⟨⟨g0, g1, g2⟩, AG, h⟩ := h
  replace h := Option.bind_eq_some_iff.mp h
  obtain ⟨te, AE, h⟩ := h
  dsimp only at AW AG AE h
  have h5 : te = true := by by_cases c : te = true; exact c; rw [if_neg c] at h; exact absurd h (by simp)
  rw [if_pos h5] at h
  subst h5
  have c6 : g2 = s2 := by by_cases c : g2 = s2; exact c; rw [if_neg c] at h; exact absurd h (by simp)
  rw [if_pos c6] at h
  have cA2 : (g2 != s2) = false := by simpa using c6
  have cB2 : decide (g2 = s2) = true := by simpa using c6
  have cC2 : (g2 == s2) = true := by simpa using c6
  clear c6
  replace h := Option.bind_eq_some_iff.mp h
  obtain ⟨⟨qk, lk0, lk1⟩, AM, h⟩ := h
  replace h := Option.bind_eq_some_iff.mp h
  obtain ⟨th, AH, h⟩ := h
  dsimp only at AH h
  have c11 : ¬ th < 0 := by intro c; rw [if_pos c] at h; exact absurd h (by simp)
  rw [if_neg c11] at h
  have c11b0 : decide (th < 0) = false := decide_eq_false c11
  clear c11
  have c12 : th = qk := by by_cases c : th = qk; exact c; rw [if_neg c] at h; exact absurd h (by simp)
  rw [if_pos c12] at h
  have hr := Option.some.inj h
  clear h
  subst c12
  subst hr
  have BW := Aside0.mk AW
  clear AW
  have BG := Aside0.mk AG
  clear AG
  have BE := Aside0.mk AE
  clear AE
  have BM := Aside0.mk AM
  clear AM
  have BH := Aside0.mk AH
  clear AH
  go_enter Tryd.func4, Tryd.ntmps4
  go_wp2_with (first | (go_at_call 10; (with_reducible refine (spec_ReadGround.calls k a0 s0 s1 s2 _ BW.out).mono ?_); rintro e w1 ⟨v0, v1, rfl, ho0, ho1, hb⟩; have Z1 := Aside0.mk HB.out.size; have Z2 := Aside0.mk (hb.size); have HS0 := Aside0.mk (Kd.R_mono (ok' := fun q => q < w1.heap.size) (Kd.R_bound ho0) (fun q hq => hq.2.2.1)); have HS1 := Aside0.mk (Kd.N_mono (ok' := fun q => q < w1.heap.size) (Kd.N_bound ho1) (fun q hq => hq.2)); clear ho0 ho1; obtain ⟨As0, cs0, es0⟩ := Kd.R_slice HS0.out; subst es0; obtain ⟨As1, cs1, es1⟩ := Kd.N_slice HS1.out; subst es1; have HB_ := Aside0.mk (below_step HB.out hb); clear hb; clear HB; have HB := HB_; clear HB_) | ((with_reducible refine gate_dst (N := 3) rfl ?_); refine box_event ?hg (N := 3) ?hd (cs := #[.slice none 0 0, .slice none 0 0]) (t := 31) ?hr ?_; (case hd => rfl); (case hg => rfl); (case hr => first | (go_simp; done) | (go_simp; rfl)); intro gs hgx w2 hbox hb; have Z3 := Aside0.mk ((by rw [hgx]; exact Nat.le_refl _) : w1.heap.size ≤ gs); have Z4 := Aside0.mk ((blk_lt hbox) : gs < w2.heap.size); have BS := Aside0.mk hbox; have HB_ := Aside0.mk (below_step HB.out hb); have HS0_ := Aside0.mk (Kd.R_below HS0.out hb); have HS1_ := Aside0.mk (Kd.N_below HS1.out hb); clear hb hbox hgx; clear HB HS0 HS1; have HB := HB_; have HS0 := HS0_; have HS1 := HS1_; clear HB_ HS0_ HS1_; have hcBS0 : w2.cell? ⟨gs, 0, none⟩ = some (.slice none 0 0) := (blk_cell BS.out 0).trans rfl; have hfBS0 := blk_frozen BS.out 0; have hcBS1 : w2.cell? ⟨gs, 1, none⟩ = some (.slice none 0 0) := (blk_cell BS.out 1).trans rfl; have hfBS1 := blk_frozen BS.out 1))
  have HB_ : Aside0 (Below w.heap.size w ((w2.setCell ⟨gs, 0, none⟩ (.slice As0 s0.length cs0)).setCell ⟨gs, 1, none⟩ (.slice As1 s1.length cs1))) := Aside0.mk (below_set (j := 1) (v := .slice As1 s1.length cs1) (below_set (j := 0) (v := .slice As0 s0.length cs0) HB.out (by have z0_ := Z1.out; have z1_ := Z2.out; have z2_ := Z3.out; have z3_ := Z4.out; omega)) (by have z0_ := Z1.out; have z1_ := Z2.out; have z2_ := Z3.out; have z3_ := Z4.out; omega))
  have BS_ := Aside0.mk (show (World.heap ((w2.setCell ⟨gs, 0, none⟩ (.slice As0 s0.length cs0)).setCell ⟨gs, 1, none⟩ (.slice As1 s1.length cs1)))[gs]? = some (.cells #[.slice As0 s0.length cs0, .slice As1 s1.length cs1] 31 (0, 0)) from (blk_put (g := gs) (cs := #[.slice As0 s0.length cs0, .slice none 0 0]) (blk_put (g := gs) (cs := #[.slice none 0 0, .slice none 0 0]) BS.out 0 (.slice As0 s0.length cs0) rfl) 1 (.slice As1 s1.length cs1) rfl))
  have HS0_ := Aside0.mk (Kd.R_far (p := ⟨gs, 1, none⟩) (Kd.R_far (p := ⟨gs, 0, none⟩) HS0.out (fun q hq => Nat.ne_of_lt (Nat.lt_of_lt_of_le hq (show w1.heap.size ≤ gs from by have z0_ := Z1.out; have z1_ := Z2.out; have z2_ := Z3.out; have z3_ := Z4.out; omega))) (.slice As0 s0.length cs0)) (fun q hq => Nat.ne_of_lt (Nat.lt_of_lt_of_le hq (show w1.heap.size ≤ gs from by have z0_ := Z1.out; have z1_ := Z2.out; have z2_ := Z3.out; have z3_ := Z4.out; omega))) (.slice As1 s1.length cs1))
  have HS1_ := Aside0.mk (Kd.N_far (p := ⟨gs, 1, none⟩) (Kd.N_far (p := ⟨gs, 0, none⟩) HS1.out (fun q hq => Nat.ne_of_lt (Nat.lt_of_lt_of_le hq (show w1.heap.size ≤ gs from by have z0_ := Z1.out; have z1_ := Z2.out; have z2_ := Z3.out; have z3_ := Z4.out; omega))) (.slice As0 s0.length cs0)) (fun q hq => Nat.ne_of_lt (Nat.lt_of_lt_of_le hq (show w1.heap.size ≤ gs from by have z0_ := Z1.out; have z1_ := Z2.out; have z2_ := Z3.out; have z3_ := Z4.out; omega))) (.slice As1 s1.length cs1))
  clear HB BS HS0 HS1
  have HB := HB_
  have BS := BS_
  have HS0 := HS0_
  have HS1 := HS1_
  clear HB_ BS_ HS0_ HS1_
  clear hcBS0 hfBS0 hcBS1 hfBS1
  obtain ⟨w3, hw_⟩ : ∃ w_, w_ = ((w2.setCell ⟨gs, 0, none⟩ (.slice As0 s0.length cs0)).setCell ⟨gs, 1, none⟩ (.slice As1 s1.length cs1)) := ⟨_, rfl⟩
  rw [← hw_] at HB BS HS0 HS1 ⊢
  have Z5 := Aside0.mk ((by rw [hw_]; simp) : w2.heap.size ≤ w3.heap.size)
  clear hw_
  have hcBS0 : w3.cell? ⟨gs, 0, none⟩ = some (.slice As0 s0.length cs0) := (blk_cell BS.out 0).trans rfl
  have hfBS0 := blk_frozen BS.out 0
  have hcBS1 : w3.cell? ⟨gs, 1, none⟩ = some (.slice As1 s1.length cs1) := (blk_cell BS.out 1).trans rfl
  have hfBS1 := blk_frozen BS.out 1
  have NL := Aside0.mk ((by have z0_ := Z1.out; have z1_ := Z2.out; have z2_ := Z3.out; have z3_ := Z4.out; have z4_ := Z5.out; omega) : w.heap.size ≤ w3.heap.size)
  go_wp2_with (first | (go_at_call 11; (with_reducible refine (impl_ReadGround.calls k a0 g0 g1 g2 _ (Tab2.on HLT_.out HB.out) BG.out).mono ?_); rintro e w4 ⟨v0, v1, rfl, ho0, ho1, hb⟩; have Z6 := Aside0.mk (hb.size); obtain ⟨Ag0, cg0, eg0⟩ := Kd.R_slice ho0; subst eg0; obtain ⟨Ag1, cg1, eg1⟩ := Kd.S_slice ho1; subst eg1; have HG0 := Aside0.mk (Kd.R_mono (ok' := (fun q => (w3.heap.size ≤ q ∧ q < w4.heap.size) ∧ some q = (.slice Ag0 g0.length cg0 : Value).ownBlock)) (Kd.R_bound (Kd.R_tight2 rfl ho0)) (fun q hq => ⟨⟨hq.2.1, hq.2.2.1⟩, hq.1.1⟩)); have HG1 := Aside0.mk (Kd.S_mono (ok' := (fun q => (w3.heap.size ≤ q ∧ q < w4.heap.size) ∧ some q ≠ (.slice Ag0 g0.length cg0 : Value).ownBlock)) (Kd.S_bound ho1) (fun q hq => ⟨⟨hq.2.1, hq.2.2.1⟩, hq.1⟩)); clear ho0 ho1; have HB_ := Aside0.mk (below_step HB.out hb); have BS_ := Aside0.mk (blk_below (g := gs) (o := .cells #[.slice As0 s0.length cs0, .slice As1 s1.length cs1] 31 (0, 0)) BS.out hb); have HS0_ := Aside0.mk (Kd.R_below HS0.out hb); have HS1_ := Aside0.mk (Kd.N_below HS1.out hb); clear hb; clear HB BS HS0 HS1; have HB := HB_; have BS := BS_; have HS0 := HS0_; have HS1 := HS1_; clear HB_ BS_ HS0_ HS1_; clear hcBS0 hfBS0 hcBS1 hfBS1; have hcBS0 : w4.cell? ⟨gs, 0, none⟩ = some (.slice As0 s0.length cs0) := (blk_cell BS.out 0).trans rfl; have hfBS0 := blk_frozen BS.out 0; have hcBS1 : w4.cell? ⟨gs, 1, none⟩ = some (.slice As1 s1.length cs1) := (blk_cell BS.out 1).trans rfl; have hfBS1 := blk_frozen BS.out 1) | ((with_reducible refine gate_dst (N := 5) rfl ?_); refine box_event ?hg (N := 5) ?hd (cs := #[.slice none 0 0, .slice none 0 0]) (t := 31) ?hr ?_; (case hd => rfl); (case hg => rfl); (case hr => first | (go_simp; done) | (go_simp; rfl)); intro gg hgx w5 hbox hb; have NBXBS := Aside0.mk ((by rw [hgx]; exact Nat.ne_of_lt (blk_lt (g := gs) (o := .cells #[.slice As0 s0.length cs0, .slice As1 s1.length cs1] 31 (0, 0)) BS.out)) : gs ≠ gg); have Z7 := Aside0.mk ((by rw [hgx]; exact Nat.le_refl _) : w4.heap.size ≤ gg); have Z8 := Aside0.mk ((blk_lt hbox) : gg < w5.heap.size); have BX := Aside0.mk hbox; have HB_ := Aside0.mk (below_step HB.out hb); have BS_ := Aside0.mk (blk_below (g := gs) (o := .cells #[.slice As0 s0.length cs0, .slice As1 s1.length cs1] 31 (0, 0)) BS.out hb); have HS0_ := Aside0.mk (Kd.R_below HS0.out hb); have HS1_ := Aside0.mk (Kd.N_below HS1.out hb); have HG0_ := Aside0.mk (Kd.R_below HG0.out hb); have HG1_ := Aside0.mk (Kd.S_below HG1.out hb); clear hb hbox hgx; clear HB BS HS0 HS1 HG0 HG1; have HB := HB_; have BS := BS_; have HS0 := HS0_; have HS1 := HS1_; have HG0 := HG0_; have HG1 := HG1_; clear HB_ BS_ HS0_ HS1_ HG0_ HG1_; clear hcBS0 hfBS0 hcBS1 hfBS1; have hcBS0 : w5.cell? ⟨gs, 0, none⟩ = some (.slice As0 s0.length cs0) := (blk_cell BS.out 0).trans rfl; have hfBS0 := blk_frozen BS.out 0; have hcBS1 : w5.cell? ⟨gs, 1, none⟩ = some (.slice As1 s1.length cs1) := (blk_cell BS.out 1).trans rfl; have hfBS1 := blk_frozen BS.out 1; have hcBX0 : w5.cell? ⟨gg, 0, none⟩ = some (.slice none 0 0) := (blk_cell BX.out 0).trans rfl; have hfBX0 := blk_frozen BX.out 0; have hcBX1 : w5.cell? ⟨gg, 1, none⟩ = some (.slice none 0 0) := (blk_cell BX.out 1).trans rfl; have hfBX1 := blk_frozen BX.out 1; have hnBXBS := NBXBS.out; have hmBXBS := NBXBS.out.symm))
  have HB_ : Aside0 (Below w.heap.size w ((w5.setCell ⟨gg, 0, none⟩ (.slice Ag0 g0.length cg0)).setCell ⟨gg, 1, none⟩ (.slice Ag1 g1.length cg1))) := Aside0.mk (below_set (j := 1) (v := .slice Ag1 g1.length cg1) (below_set (j := 0) (v := .slice Ag0 g0.length cg0) HB.out (by have z0_ := Z1.out; have z1_ := Z2.out; have z2_ := Z3.out; have z3_ := Z4.out; have z4_ := Z5.out; have z5_ := Z6.out; have z6_ := Z7.out; have z7_ := Z8.out; omega)) (by have z0_ := Z1.out; have z1_ := Z2.out; have z2_ := Z3.out; have z3_ := Z4.out; have z4_ := Z5.out; have z5_ := Z6.out; have z6_ := Z7.out; have z7_ := Z8.out; omega))
  have BS_ := Aside0.mk (show (World.heap ((w5.setCell ⟨gg, 0, none⟩ (.slice Ag0 g0.length cg0)).setCell ⟨gg, 1, none⟩ (.slice Ag1 g1.length cg1)))[gs]? = some (.cells #[.slice As0 s0.length cs0, .slice As1 s1.length cs1] 31 (0, 0)) from (blk_far (blk_far BS.out NBXBS.out (.slice Ag0 g0.length cg0)) NBXBS.out (.slice Ag1 g1.length cg1)))
  have BX_ := Aside0.mk (show (World.heap ((w5.setCell ⟨gg, 0, none⟩ (.slice Ag0 g0.length cg0)).setCell ⟨gg, 1, none⟩ (.slice Ag1 g1.length cg1)))[gg]? = some (.cells #[.slice Ag0 g0.length cg0, .slice Ag1 g1.length cg1] 31 (0, 0)) from (blk_put (g := gg) (cs := #[.slice Ag0 g0.length cg0, .slice none 0 0]) (blk_put (g := gg) (cs := #[.slice none 0 0, .slice none 0 0]) BX.out 0 (.slice Ag0 g0.length cg0) rfl) 1 (.slice Ag1 g1.length cg1) rfl))
  have HS0_ := Aside0.mk (Kd.R_far (p := ⟨gg, 1, none⟩) (Kd.R_far (p := ⟨gg, 0, none⟩) HS0.out (fun q hq => Nat.ne_of_lt (Nat.lt_of_lt_of_le hq (show w1.heap.size ≤ gg from by have z0_ := Z1.out; have z1_ := Z2.out; have z2_ := Z3.out; have z3_ := Z4.out; have z4_ := Z5.out; have z5_ := Z6.out; have z6_ := Z7.out; have z7_ := Z8.out; omega))) (.slice Ag0 g0.length cg0)) (fun q hq => Nat.ne_of_lt (Nat.lt_of_lt_of_le hq (show w1.heap.size ≤ gg from by have z0_ := Z1.out; have z1_ := Z2.out; have z2_ := Z3.out; have z3_ := Z4.out; have z4_ := Z5.out; have z5_ := Z6.out; have z6_ := Z7.out; have z7_ := Z8.out; omega))) (.slice Ag1 g1.length cg1))
  have HS1_ := Aside0.mk (Kd.N_far (p := ⟨gg, 1, none⟩) (Kd.N_far (p := ⟨gg, 0, none⟩) HS1.out (fun q hq => Nat.ne_of_lt (Nat.lt_of_lt_of_le hq (show w1.heap.size ≤ gg from by have z0_ := Z1.out; have z1_ := Z2.out; have z2_ := Z3.out; have z3_ := Z4.out; have z4_ := Z5.out; have z5_ := Z6.out; have z6_ := Z7.out; have z7_ := Z8.out; omega))) (.slice Ag0 g0.length cg0)) (fun q hq => Nat.ne_of_lt (Nat.lt_of_lt_of_le hq (show w1.heap.size ≤ gg from by have z0_ := Z1.out; have z1_ := Z2.out; have z2_ := Z3.out; have z3_ := Z4.out; have z4_ := Z5.out; have z5_ := Z6.out; have z6_ := Z7.out; have z7_ := Z8.out; omega))) (.slice Ag1 g1.length cg1))
  have HG0_ := Aside0.mk (Kd.R_far (p := ⟨gg, 1, none⟩) (Kd.R_far (p := ⟨gg, 0, none⟩) HG0.out (fun q hq => Nat.ne_of_lt (Nat.lt_of_lt_of_le hq.1.2 (show w4.heap.size ≤ gg from by have z0_ := Z1.out; have z1_ := Z2.out; have z2_ := Z3.out; have z3_ := Z4.out; have z4_ := Z5.out; have z5_ := Z6.out; have z6_ := Z7.out; have z7_ := Z8.out; omega))) (.slice Ag0 g0.length cg0)) (fun q hq => Nat.ne_of_lt (Nat.lt_of_lt_of_le hq.1.2 (show w4.heap.size ≤ gg from by have z0_ := Z1.out; have z1_ := Z2.out; have z2_ := Z3.out; have z3_ := Z4.out; have z4_ := Z5.out; have z5_ := Z6.out; have z6_ := Z7.out; have z7_ := Z8.out; omega))) (.slice Ag1 g1.length cg1))
  have HG1_ := Aside0.mk (Kd.S_far (p := ⟨gg, 1, none⟩) (Kd.S_far (p := ⟨gg, 0, none⟩) HG1.out (fun q hq => Nat.ne_of_lt (Nat.lt_of_lt_of_le hq.1.2 (show w4.heap.size ≤ gg from by have z0_ := Z1.out; have z1_ := Z2.out; have z2_ := Z3.out; have z3_ := Z4.out; have z4_ := Z5.out; have z5_ := Z6.out; have z6_ := Z7.out; have z7_ := Z8.out; omega))) (.slice Ag0 g0.length cg0)) (fun q hq => Nat.ne_of_lt (Nat.lt_of_lt_of_le hq.1.2 (show w4.heap.size ≤ gg from by have z0_ := Z1.out; have z1_ := Z2.out; have z2_ := Z3.out; have z3_ := Z4.out; have z4_ := Z5.out; have z5_ := Z6.out; have z6_ := Z7.out; have z7_ := Z8.out; omega))) (.slice Ag1 g1.length cg1))
  clear HB BS BX HS0 HS1 HG0 HG1
  have HB := HB_
  have BS := BS_
  have BX := BX_
  have HS0 := HS0_
  have HS1 := HS1_
  have HG0 := HG0_
  have HG1 := HG1_
  clear HB_ BS_ BX_ HS0_ HS1_ HG0_ HG1_
  clear hcBS0 hfBS0 hcBS1 hfBS1 hcBX0 hfBX0 hcBX1 hfBX1
  obtain ⟨w6, hw_⟩ : ∃ w_, w_ = ((w5.setCell ⟨gg, 0, none⟩ (.slice Ag0 g0.length cg0)).setCell ⟨gg, 1, none⟩ (.slice Ag1 g1.length cg1)) := ⟨_, rfl⟩
  rw [← hw_] at HB BS BX HS0 HS1 HG0 HG1 ⊢
  have Z9 := Aside0.mk ((by rw [hw_]; simp) : w5.heap.size ≤ w6.heap.size)
  clear hw_
  have hcBS0 : w6.cell? ⟨gs, 0, none⟩ = some (.slice As0 s0.length cs0) := (blk_cell BS.out 0).trans rfl
  have hfBS0 := blk_frozen BS.out 0
  have hcBS1 : w6.cell? ⟨gs, 1, none⟩ = some (.slice As1 s1.length cs1) := (blk_cell BS.out 1).trans rfl
  have hfBS1 := blk_frozen BS.out 1
  have hcBX0 : w6.cell? ⟨gg, 0, none⟩ = some (.slice Ag0 g0.length cg0) := (blk_cell BX.out 0).trans rfl
  have hfBX0 := blk_frozen BX.out 0
  have hcBX1 : w6.cell? ⟨gg, 1, none⟩ = some (.slice Ag1 g1.length cg1) := (blk_cell BX.out 1).trans rfl
  have hfBX1 := blk_frozen BX.out 1
  go_wp2_with (first | (go_at_call 9; (with_reducible refine (laws_eqGround.calls k Ag0 cg0 g0 Ag1 cg1 g1 As0 cs0 s0 As1 cs1 s1 true _ (Kd.R_reads' HG0.out).2.2 (Kd.R_reads' HG0.out).2.1 (Kd.S_reads' HG1.out).2.2 (Kd.S_reads' HG1.out).2.1 (Kd.R_reads' HS0.out).2.2 (Kd.R_reads' HS0.out).2.1 (Kd.N_reads' HS1.out).2.2 (Kd.N_reads' HS1.out).2.1 BE.out).mono ?_); rintro e w7 ⟨rfl, hb⟩; have Z10 := Aside0.mk (hb.size); have HB_ := Aside0.mk (below_step HB.out hb); have BS_ := Aside0.mk (blk_below (g := gs) (o := .cells #[.slice As0 s0.length cs0, .slice As1 s1.length cs1] 31 (0, 0)) BS.out hb); have BX_ := Aside0.mk (blk_below (g := gg) (o := .cells #[.slice Ag0 g0.length cg0, .slice Ag1 g1.length cg1] 31 (0, 0)) BX.out hb); have HS0_ := Aside0.mk (Kd.R_below HS0.out hb); have HS1_ := Aside0.mk (Kd.N_below HS1.out hb); have HG0_ := Aside0.mk (Kd.R_below HG0.out hb); have HG1_ := Aside0.mk (Kd.S_below HG1.out hb); clear hb; clear HB BS BX HS0 HS1 HG0 HG1; have HB := HB_; have BS := BS_; have BX := BX_; have HS0 := HS0_; have HS1 := HS1_; have HG0 := HG0_; have HG1 := HG1_; clear HB_ BS_ BX_ HS0_ HS1_ HG0_ HG1_; clear hcBS0 hfBS0 hcBS1 hfBS1 hcBX0 hfBX0 hcBX1 hfBX1; have hcBS0 : w7.cell? ⟨gs, 0, none⟩ = some (.slice As0 s0.length cs0) := (blk_cell BS.out 0).trans rfl; have hfBS0 := blk_frozen BS.out 0; have hcBS1 : w7.cell? ⟨gs, 1, none⟩ = some (.slice As1 s1.length cs1) := (blk_cell BS.out 1).trans rfl; have hfBS1 := blk_frozen BS.out 1; have hcBX0 : w7.cell? ⟨gg, 0, none⟩ = some (.slice Ag0 g0.length cg0) := (blk_cell BX.out 0).trans rfl; have hfBX0 := blk_frozen BX.out 0; have hcBX1 : w7.cell? ⟨gg, 1, none⟩ = some (.slice Ag1 g1.length cg1) := (blk_cell BX.out 1).trans rfl; have hfBX1 := blk_frozen BX.out 1))
  go_wp2_with (first | (go_at_call 12; (with_reducible refine (laws_markGround.calls2 k (fun q => (w3.heap.size ≤ q ∧ q < w4.heap.size) ∧ some q = (.slice Ag0 g0.length cg0 : Value).ownBlock) _ g0 (fun q => (w3.heap.size ≤ q ∧ q < w4.heap.size) ∧ some q ≠ (.slice Ag0 g0.length cg0 : Value).ownBlock) _ g1 1 th lk0 lk1 w _ HB.out (Kd.R_lower HG0.out NL.out) (Kd.S_lower HG1.out NL.out) (fun q h1 h2 => absurd h1.2 h2.2) BM.out).mono ?_); rintro e w8 ⟨rfl, hy0, hy1, hb, hk⟩; have HB_ := Aside0.mk hb; have e0_ := (Kd.R_reads' hy0).1; have e1_ := (Kd.S_reads' hy1).1; have BS_ := Aside0.mk ((hk.2 gs (blk_lt BS.out) (fun hs => by have i_ : w3.heap.size ≤ _ ∧ _ < w4.heap.size := hs.elim (fun h => h.1) (fun h => h.1); have z0_ := Z1.out; have z1_ := Z2.out; have z2_ := Z3.out; have z3_ := Z4.out; have z4_ := Z5.out; have z5_ := Z6.out; have z6_ := Z7.out; have z7_ := Z8.out; have z8_ := Z9.out; have z9_ := Z10.out; omega)).trans BS.out); have BX0_ := (hk.2 gg (blk_lt BX.out) (fun hs => by have i_ : w3.heap.size ≤ _ ∧ _ < w4.heap.size := hs.elim (fun h => h.1) (fun h => h.1); have z0_ := Z1.out; have z1_ := Z2.out; have z2_ := Z3.out; have z3_ := Z4.out; have z4_ := Z5.out; have z5_ := Z6.out; have z6_ := Z7.out; have z7_ := Z8.out; have z8_ := Z9.out; have z9_ := Z10.out; omega)).trans BX.out; rw [e0_, e1_] at BX0_; have BX_ := Aside0.mk BX0_; clear BX0_; have HS0_ := Aside0.mk (Kd.R_step HS0.out (fun q hq hlt => hk.2 q hlt (fun hs => by have i_ : w3.heap.size ≤ _ ∧ _ < w4.heap.size := hs.elim (fun h => h.1) (fun h => h.1); have y_ : q < w1.heap.size := hq; have z0_ := Z1.out; have z1_ := Z2.out; have z2_ := Z3.out; have z3_ := Z4.out; have z4_ := Z5.out; have z5_ := Z6.out; have z6_ := Z7.out; have z7_ := Z8.out; have z8_ := Z9.out; have z9_ := Z10.out; omega))); have HS1_ := Aside0.mk (Kd.N_step HS1.out (fun q hq hlt => hk.2 q hlt (fun hs => by have i_ : w3.heap.size ≤ _ ∧ _ < w4.heap.size := hs.elim (fun h => h.1) (fun h => h.1); have y_ : q < w1.heap.size := hq; have z0_ := Z1.out; have z1_ := Z2.out; have z2_ := Z3.out; have z3_ := Z4.out; have z4_ := Z5.out; have z5_ := Z6.out; have z6_ := Z7.out; have z7_ := Z8.out; have z8_ := Z9.out; have z9_ := Z10.out; omega))); have Z11 := Aside0.mk (hk.1); rw [e0_] at hy0; rw [e1_] at hy1; have HM0 := Aside0.mk (Kd.R_mono (ok' := fun q => q < w8.heap.size) (Kd.R_bound hy0) (fun q hq => hq.2.2.1)); have HM1 := Aside0.mk (Kd.S_mono (ok' := fun q => q < w8.heap.size) (Kd.S_bound hy1) (fun q hq => hq.2.2.1)); clear hy0 hy1 hb hk HG0 HG1 e0_ e1_; clear HB BS BX HS0 HS1; have HB := HB_; have BS := BS_; have BX := BX_; have HS0 := HS0_; have HS1 := HS1_; clear HB_ BS_ BX_ HS0_ HS1_; clear hcBS0 hfBS0 hcBS1 hfBS1 hcBX0 hfBX0 hcBX1 hfBX1; have hcBS0 : w8.cell? ⟨gs, 0, none⟩ = some (.slice As0 s0.length cs0) := (blk_cell BS.out 0).trans rfl; have hfBS0 := blk_frozen BS.out 0; have hcBS1 : w8.cell? ⟨gs, 1, none⟩ = some (.slice As1 s1.length cs1) := (blk_cell BS.out 1).trans rfl; have hfBS1 := blk_frozen BS.out 1; have hcBX0 : w8.cell? ⟨gg, 0, none⟩ = some (.slice Ag0 lk0.length cg0) := (blk_cell BX.out 0).trans rfl; have hfBX0 := blk_frozen BX.out 0; have hcBX1 : w8.cell? ⟨gg, 1, none⟩ = some (.slice Ag1 lk1.length cg1) := (blk_cell BX.out 1).trans rfl; have hfBX1 := blk_frozen BX.out 1))
  go_wp2_with (first | (go_at_call 13; (with_reducible refine (laws_heldGround.calls k Ag0 cg0 lk0 Ag1 cg1 lk1 1 th _ (Kd.R_reads' HM0.out).2.2 (Kd.R_reads' HM0.out).2.1 (Kd.S_reads' HM1.out).2.2 (Kd.S_reads' HM1.out).2.1 BH.out).mono ?_); rintro e w9 ⟨rfl, hb⟩; have Z12 := Aside0.mk (hb.size); have HB_ := Aside0.mk (below_step HB.out hb); have BS_ := Aside0.mk (blk_below (g := gs) (o := .cells #[.slice As0 s0.length cs0, .slice As1 s1.length cs1] 31 (0, 0)) BS.out hb); have BX_ := Aside0.mk (blk_below (g := gg) (o := .cells #[.slice Ag0 lk0.length cg0, .slice Ag1 lk1.length cg1] 31 (0, 0)) BX.out hb); have HS0_ := Aside0.mk (Kd.R_below HS0.out hb); have HS1_ := Aside0.mk (Kd.N_below HS1.out hb); have HM0_ := Aside0.mk (Kd.R_below HM0.out hb); have HM1_ := Aside0.mk (Kd.S_below HM1.out hb); clear hb; clear HB BS BX HS0 HS1 HM0 HM1; have HB := HB_; have BS := BS_; have BX := BX_; have HS0 := HS0_; have HS1 := HS1_; have HM0 := HM0_; have HM1 := HM1_; clear HB_ BS_ BX_ HS0_ HS1_ HM0_ HM1_; clear hcBS0 hfBS0 hcBS1 hfBS1 hcBX0 hfBX0 hcBX1 hfBX1; have hcBS0 : w9.cell? ⟨gs, 0, none⟩ = some (.slice As0 s0.length cs0) := (blk_cell BS.out 0).trans rfl; have hfBS0 := blk_frozen BS.out 0; have hcBS1 : w9.cell? ⟨gs, 1, none⟩ = some (.slice As1 s1.length cs1) := (blk_cell BS.out 1).trans rfl; have hfBS1 := blk_frozen BS.out 1; have hcBX0 : w9.cell? ⟨gg, 0, none⟩ = some (.slice Ag0 lk0.length cg0) := (blk_cell BX.out 0).trans rfl; have hfBX0 := blk_frozen BX.out 0; have hcBX1 : w9.cell? ⟨gg, 1, none⟩ = some (.slice Ag1 lk1.length cg1) := (blk_cell BX.out 1).trans rfl; have hfBX1 := blk_frozen BX.out 1))
  go_wp2_with (first | (go_at_call 11; (with_reducible refine (impl_ReadGround.calls k a0 g0 g1 g2 _ (Tab2.on HLT_.out HB.out) BG.out).mono ?_); rintro e w10 ⟨v0, v1, rfl, ho0, ho1, hb⟩; have Z13 := Aside0.mk (hb.size); obtain ⟨Ap0, cp0, ep0⟩ := Kd.R_slice ho0; subst ep0; obtain ⟨Ap1, cp1, ep1⟩ := Kd.S_slice ho1; subst ep1; have HP0 := Aside0.mk (Kd.R_mono (ok' := fun q => q < w10.heap.size) (Kd.R_bound ho0) (fun q hq => hq.2.2.1)); have HP1 := Aside0.mk (Kd.S_mono (ok' := fun q => q < w10.heap.size) (Kd.S_bound ho1) (fun q hq => hq.2.2.1)); clear ho0 ho1; have HB_ := Aside0.mk (below_step HB.out hb); have BS_ := Aside0.mk (blk_below (g := gs) (o := .cells #[.slice As0 s0.length cs0, .slice As1 s1.length cs1] 31 (0, 0)) BS.out hb); have BX_ := Aside0.mk (blk_below (g := gg) (o := .cells #[.slice Ag0 lk0.length cg0, .slice Ag1 lk1.length cg1] 31 (0, 0)) BX.out hb); have HS0_ := Aside0.mk (Kd.R_below HS0.out hb); have HS1_ := Aside0.mk (Kd.N_below HS1.out hb); have HM0_ := Aside0.mk (Kd.R_below HM0.out hb); have HM1_ := Aside0.mk (Kd.S_below HM1.out hb); clear hb; clear HB BS BX HS0 HS1 HM0 HM1; have HB := HB_; have BS := BS_; have BX := BX_; have HS0 := HS0_; have HS1 := HS1_; have HM0 := HM0_; have HM1 := HM1_; clear HB_ BS_ BX_ HS0_ HS1_ HM0_ HM1_; clear hcBS0 hfBS0 hcBS1 hfBS1 hcBX0 hfBX0 hcBX1 hfBX1; have hcBS0 : w10.cell? ⟨gs, 0, none⟩ = some (.slice As0 s0.length cs0) := (blk_cell BS.out 0).trans rfl; have hfBS0 := blk_frozen BS.out 0; have hcBS1 : w10.cell? ⟨gs, 1, none⟩ = some (.slice As1 s1.length cs1) := (blk_cell BS.out 1).trans rfl; have hfBS1 := blk_frozen BS.out 1; have hcBX0 : w10.cell? ⟨gg, 0, none⟩ = some (.slice Ag0 lk0.length cg0) := (blk_cell BX.out 0).trans rfl; have hfBX0 := blk_frozen BX.out 0; have hcBX1 : w10.cell? ⟨gg, 1, none⟩ = some (.slice Ag1 lk1.length cg1) := (blk_cell BX.out 1).trans rfl; have hfBX1 := blk_frozen BX.out 1) | ((with_reducible refine gate_dst (N := 9) rfl ?_); refine box_event ?hg (N := 9) ?hd (cs := #[.slice none 0 0, .slice none 0 0]) (t := 31) ?hr ?_; (case hd => rfl); (case hg => rfl); (case hr => first | (go_simp; done) | (go_simp; rfl)); intro gp hgx w11 hbox hb; have NBPBS := Aside0.mk ((by rw [hgx]; exact Nat.ne_of_lt (blk_lt (g := gs) (o := .cells #[.slice As0 s0.length cs0, .slice As1 s1.length cs1] 31 (0, 0)) BS.out)) : gs ≠ gp); have NBPBX := Aside0.mk ((by rw [hgx]; exact Nat.ne_of_lt (blk_lt (g := gg) (o := .cells #[.slice Ag0 lk0.length cg0, .slice Ag1 lk1.length cg1] 31 (0, 0)) BX.out)) : gg ≠ gp); have Z14 := Aside0.mk ((by rw [hgx]; exact Nat.le_refl _) : w10.heap.size ≤ gp); have Z15 := Aside0.mk ((blk_lt hbox) : gp < w11.heap.size); have BP := Aside0.mk hbox; have HB_ := Aside0.mk (below_step HB.out hb); have BS_ := Aside0.mk (blk_below (g := gs) (o := .cells #[.slice As0 s0.length cs0, .slice As1 s1.length cs1] 31 (0, 0)) BS.out hb); have BX_ := Aside0.mk (blk_below (g := gg) (o := .cells #[.slice Ag0 lk0.length cg0, .slice Ag1 lk1.length cg1] 31 (0, 0)) BX.out hb); have HS0_ := Aside0.mk (Kd.R_below HS0.out hb); have HS1_ := Aside0.mk (Kd.N_below HS1.out hb); have HM0_ := Aside0.mk (Kd.R_below HM0.out hb); have HM1_ := Aside0.mk (Kd.S_below HM1.out hb); have HP0_ := Aside0.mk (Kd.R_below HP0.out hb); have HP1_ := Aside0.mk (Kd.S_below HP1.out hb); clear hb hbox hgx; clear HB BS BX HS0 HS1 HM0 HM1 HP0 HP1; have HB := HB_; have BS := BS_; have BX := BX_; have HS0 := HS0_; have HS1 := HS1_; have HM0 := HM0_; have HM1 := HM1_; have HP0 := HP0_; have HP1 := HP1_; clear HB_ BS_ BX_ HS0_ HS1_ HM0_ HM1_ HP0_ HP1_; clear hcBS0 hfBS0 hcBS1 hfBS1 hcBX0 hfBX0 hcBX1 hfBX1; have hcBS0 : w11.cell? ⟨gs, 0, none⟩ = some (.slice As0 s0.length cs0) := (blk_cell BS.out 0).trans rfl; have hfBS0 := blk_frozen BS.out 0; have hcBS1 : w11.cell? ⟨gs, 1, none⟩ = some (.slice As1 s1.length cs1) := (blk_cell BS.out 1).trans rfl; have hfBS1 := blk_frozen BS.out 1; have hcBX0 : w11.cell? ⟨gg, 0, none⟩ = some (.slice Ag0 lk0.length cg0) := (blk_cell BX.out 0).trans rfl; have hfBX0 := blk_frozen BX.out 0; have hcBX1 : w11.cell? ⟨gg, 1, none⟩ = some (.slice Ag1 lk1.length cg1) := (blk_cell BX.out 1).trans rfl; have hfBX1 := blk_frozen BX.out 1; have hcBP0 : w11.cell? ⟨gp, 0, none⟩ = some (.slice none 0 0) := (blk_cell BP.out 0).trans rfl; have hfBP0 := blk_frozen BP.out 0; have hcBP1 : w11.cell? ⟨gp, 1, none⟩ = some (.slice none 0 0) := (blk_cell BP.out 1).trans rfl; have hfBP1 := blk_frozen BP.out 1; have hnBPBS := NBPBS.out; have hnBPBX := NBPBX.out; have hmBPBS := NBPBS.out.symm; have hmBPBX := NBPBX.out.symm))
  have HB_ : Aside0 (Below w.heap.size w ((w11.setCell ⟨gp, 0, none⟩ (.slice Ap0 g0.length cp0)).setCell ⟨gp, 1, none⟩ (.slice Ap1 g1.length cp1))) := Aside0.mk (below_set (j := 1) (v := .slice Ap1 g1.length cp1) (below_set (j := 0) (v := .slice Ap0 g0.length cp0) HB.out (by have z0_ := Z1.out; have z1_ := Z2.out; have z2_ := Z3.out; have z3_ := Z4.out; have z4_ := Z5.out; have z5_ := Z6.out; have z6_ := Z7.out; have z7_ := Z8.out; have z8_ := Z9.out; have z9_ := Z10.out; have z10_ := Z11.out; have z11_ := Z12.out; have z12_ := Z13.out; have z13_ := Z14.out; have z14_ := Z15.out; omega)) (by have z0_ := Z1.out; have z1_ := Z2.out; have z2_ := Z3.out; have z3_ := Z4.out; have z4_ := Z5.out; have z5_ := Z6.out; have z6_ := Z7.out; have z7_ := Z8.out; have z8_ := Z9.out; have z9_ := Z10.out; have z10_ := Z11.out; have z11_ := Z12.out; have z12_ := Z13.out; have z13_ := Z14.out; have z14_ := Z15.out; omega))
  have BS_ := Aside0.mk (show (World.heap ((w11.setCell ⟨gp, 0, none⟩ (.slice Ap0 g0.length cp0)).setCell ⟨gp, 1, none⟩ (.slice Ap1 g1.length cp1)))[gs]? = some (.cells #[.slice As0 s0.length cs0, .slice As1 s1.length cs1] 31 (0, 0)) from (blk_far (blk_far BS.out NBPBS.out (.slice Ap0 g0.length cp0)) NBPBS.out (.slice Ap1 g1.length cp1)))
  have BX_ := Aside0.mk (show (World.heap ((w11.setCell ⟨gp, 0, none⟩ (.slice Ap0 g0.length cp0)).setCell ⟨gp, 1, none⟩ (.slice Ap1 g1.length cp1)))[gg]? = some (.cells #[.slice Ag0 lk0.length cg0, .slice Ag1 lk1.length cg1] 31 (0, 0)) from (blk_far (blk_far BX.out NBPBX.out (.slice Ap0 g0.length cp0)) NBPBX.out (.slice Ap1 g1.length cp1)))
  have BP_ := Aside0.mk (show (World.heap ((w11.setCell ⟨gp, 0, none⟩ (.slice Ap0 g0.length cp0)).setCell ⟨gp, 1, none⟩ (.slice Ap1 g1.length cp1)))[gp]? = some (.cells #[.slice Ap0 g0.length cp0, .slice Ap1 g1.length cp1] 31 (0, 0)) from (blk_put (g := gp) (cs := #[.slice Ap0 g0.length cp0, .slice none 0 0]) (blk_put (g := gp) (cs := #[.slice none 0 0, .slice none 0 0]) BP.out 0 (.slice Ap0 g0.length cp0) rfl) 1 (.slice Ap1 g1.length cp1) rfl))
  have HS0_ := Aside0.mk (Kd.R_far (p := ⟨gp, 1, none⟩) (Kd.R_far (p := ⟨gp, 0, none⟩) HS0.out (fun q hq => Nat.ne_of_lt (Nat.lt_of_lt_of_le hq (show w1.heap.size ≤ gp from by have z0_ := Z1.out; have z1_ := Z2.out; have z2_ := Z3.out; have z3_ := Z4.out; have z4_ := Z5.out; have z5_ := Z6.out; have z6_ := Z7.out; have z7_ := Z8.out; have z8_ := Z9.out; have z9_ := Z10.out; have z10_ := Z11.out; have z11_ := Z12.out; have z12_ := Z13.out; have z13_ := Z14.out; have z14_ := Z15.out; omega))) (.slice Ap0 g0.length cp0)) (fun q hq => Nat.ne_of_lt (Nat.lt_of_lt_of_le hq (show w1.heap.size ≤ gp from by have z0_ := Z1.out; have z1_ := Z2.out; have z2_ := Z3.out; have z3_ := Z4.out; have z4_ := Z5.out; have z5_ := Z6.out; have z6_ := Z7.out; have z7_ := Z8.out; have z8_ := Z9.out; have z9_ := Z10.out; have z10_ := Z11.out; have z11_ := Z12.out; have z12_ := Z13.out; have z13_ := Z14.out; have z14_ := Z15.out; omega))) (.slice Ap1 g1.length cp1))
  have HS1_ := Aside0.mk (Kd.N_far (p := ⟨gp, 1, none⟩) (Kd.N_far (p := ⟨gp, 0, none⟩) HS1.out (fun q hq => Nat.ne_of_lt (Nat.lt_of_lt_of_le hq (show w1.heap.size ≤ gp from by have z0_ := Z1.out; have z1_ := Z2.out; have z2_ := Z3.out; have z3_ := Z4.out; have z4_ := Z5.out; have z5_ := Z6.out; have z6_ := Z7.out; have z7_ := Z8.out; have z8_ := Z9.out; have z9_ := Z10.out; have z10_ := Z11.out; have z11_ := Z12.out; have z12_ := Z13.out; have z13_ := Z14.out; have z14_ := Z15.out; omega))) (.slice Ap0 g0.length cp0)) (fun q hq => Nat.ne_of_lt (Nat.lt_of_lt_of_le hq (show w1.heap.size ≤ gp from by have z0_ := Z1.out; have z1_ := Z2.out; have z2_ := Z3.out; have z3_ := Z4.out; have z4_ := Z5.out; have z5_ := Z6.out; have z6_ := Z7.out; have z7_ := Z8.out; have z8_ := Z9.out; have z9_ := Z10.out; have z10_ := Z11.out; have z11_ := Z12.out; have z12_ := Z13.out; have z13_ := Z14.out; have z14_ := Z15.out; omega))) (.slice Ap1 g1.length cp1))
  have HM0_ := Aside0.mk (Kd.R_far (p := ⟨gp, 1, none⟩) (Kd.R_far (p := ⟨gp, 0, none⟩) HM0.out (fun q hq => Nat.ne_of_lt (Nat.lt_of_lt_of_le hq (show w8.heap.size ≤ gp from by have z0_ := Z1.out; have z1_ := Z2.out; have z2_ := Z3.out; have z3_ := Z4.out; have z4_ := Z5.out; have z5_ := Z6.out; have z6_ := Z7.out; have z7_ := Z8.out; have z8_ := Z9.out; have z9_ := Z10.out; have z10_ := Z11.out; have z11_ := Z12.out; have z12_ := Z13.out; have z13_ := Z14.out; have z14_ := Z15.out; omega))) (.slice Ap0 g0.length cp0)) (fun q hq => Nat.ne_of_lt (Nat.lt_of_lt_of_le hq (show w8.heap.size ≤ gp from by have z0_ := Z1.out; have z1_ := Z2.out; have z2_ := Z3.out; have z3_ := Z4.out; have z4_ := Z5.out; have z5_ := Z6.out; have z6_ := Z7.out; have z7_ := Z8.out; have z8_ := Z9.out; have z9_ := Z10.out; have z10_ := Z11.out; have z11_ := Z12.out; have z12_ := Z13.out; have z13_ := Z14.out; have z14_ := Z15.out; omega))) (.slice Ap1 g1.length cp1))
  have HM1_ := Aside0.mk (Kd.S_far (p := ⟨gp, 1, none⟩) (Kd.S_far (p := ⟨gp, 0, none⟩) HM1.out (fun q hq => Nat.ne_of_lt (Nat.lt_of_lt_of_le hq (show w8.heap.size ≤ gp from by have z0_ := Z1.out; have z1_ := Z2.out; have z2_ := Z3.out; have z3_ := Z4.out; have z4_ := Z5.out; have z5_ := Z6.out; have z6_ := Z7.out; have z7_ := Z8.out; have z8_ := Z9.out; have z9_ := Z10.out; have z10_ := Z11.out; have z11_ := Z12.out; have z12_ := Z13.out; have z13_ := Z14.out; have z14_ := Z15.out; omega))) (.slice Ap0 g0.length cp0)) (fun q hq => Nat.ne_of_lt (Nat.lt_of_lt_of_le hq (show w8.heap.size ≤ gp from by have z0_ := Z1.out; have z1_ := Z2.out; have z2_ := Z3.out; have z3_ := Z4.out; have z4_ := Z5.out; have z5_ := Z6.out; have z6_ := Z7.out; have z7_ := Z8.out; have z8_ := Z9.out; have z9_ := Z10.out; have z10_ := Z11.out; have z11_ := Z12.out; have z12_ := Z13.out; have z13_ := Z14.out; have z14_ := Z15.out; omega))) (.slice Ap1 g1.length cp1))
  have HP0_ := Aside0.mk (Kd.R_far (p := ⟨gp, 1, none⟩) (Kd.R_far (p := ⟨gp, 0, none⟩) HP0.out (fun q hq => Nat.ne_of_lt (Nat.lt_of_lt_of_le hq (show w10.heap.size ≤ gp from by have z0_ := Z1.out; have z1_ := Z2.out; have z2_ := Z3.out; have z3_ := Z4.out; have z4_ := Z5.out; have z5_ := Z6.out; have z6_ := Z7.out; have z7_ := Z8.out; have z8_ := Z9.out; have z9_ := Z10.out; have z10_ := Z11.out; have z11_ := Z12.out; have z12_ := Z13.out; have z13_ := Z14.out; have z14_ := Z15.out; omega))) (.slice Ap0 g0.length cp0)) (fun q hq => Nat.ne_of_lt (Nat.lt_of_lt_of_le hq (show w10.heap.size ≤ gp from by have z0_ := Z1.out; have z1_ := Z2.out; have z2_ := Z3.out; have z3_ := Z4.out; have z4_ := Z5.out; have z5_ := Z6.out; have z6_ := Z7.out; have z7_ := Z8.out; have z8_ := Z9.out; have z9_ := Z10.out; have z10_ := Z11.out; have z11_ := Z12.out; have z12_ := Z13.out; have z13_ := Z14.out; have z14_ := Z15.out; omega))) (.slice Ap1 g1.length cp1))
  have HP1_ := Aside0.mk (Kd.S_far (p := ⟨gp, 1, none⟩) (Kd.S_far (p := ⟨gp, 0, none⟩) HP1.out (fun q hq => Nat.ne_of_lt (Nat.lt_of_lt_of_le hq (show w10.heap.size ≤ gp from by have z0_ := Z1.out; have z1_ := Z2.out; have z2_ := Z3.out; have z3_ := Z4.out; have z4_ := Z5.out; have z5_ := Z6.out; have z6_ := Z7.out; have z7_ := Z8.out; have z8_ := Z9.out; have z9_ := Z10.out; have z10_ := Z11.out; have z11_ := Z12.out; have z12_ := Z13.out; have z13_ := Z14.out; have z14_ := Z15.out; omega))) (.slice Ap0 g0.length cp0)) (fun q hq => Nat.ne_of_lt (Nat.lt_of_lt_of_le hq (show w10.heap.size ≤ gp from by have z0_ := Z1.out; have z1_ := Z2.out; have z2_ := Z3.out; have z3_ := Z4.out; have z4_ := Z5.out; have z5_ := Z6.out; have z6_ := Z7.out; have z7_ := Z8.out; have z8_ := Z9.out; have z9_ := Z10.out; have z10_ := Z11.out; have z11_ := Z12.out; have z12_ := Z13.out; have z13_ := Z14.out; have z14_ := Z15.out; omega))) (.slice Ap1 g1.length cp1))
  clear HB BS BX BP HS0 HS1 HM0 HM1 HP0 HP1
  have HB := HB_
  have BS := BS_
  have BX := BX_
  have BP := BP_
  have HS0 := HS0_
  have HS1 := HS1_
  have HM0 := HM0_
  have HM1 := HM1_
  have HP0 := HP0_
  have HP1 := HP1_
  clear HB_ BS_ BX_ BP_ HS0_ HS1_ HM0_ HM1_ HP0_ HP1_
  clear hcBS0 hfBS0 hcBS1 hfBS1 hcBX0 hfBX0 hcBX1 hfBX1 hcBP0 hfBP0 hcBP1 hfBP1
  obtain ⟨w12, hw_⟩ : ∃ w_, w_ = ((w11.setCell ⟨gp, 0, none⟩ (.slice Ap0 g0.length cp0)).setCell ⟨gp, 1, none⟩ (.slice Ap1 g1.length cp1)) := ⟨_, rfl⟩
  rw [← hw_] at HB BS BX BP HS0 HS1 HM0 HM1 HP0 HP1 ⊢
  have Z16 := Aside0.mk ((by rw [hw_]; simp) : w11.heap.size ≤ w12.heap.size)
  clear hw_
  have hcBS0 : w12.cell? ⟨gs, 0, none⟩ = some (.slice As0 s0.length cs0) := (blk_cell BS.out 0).trans rfl
  have hfBS0 := blk_frozen BS.out 0
  have hcBS1 : w12.cell? ⟨gs, 1, none⟩ = some (.slice As1 s1.length cs1) := (blk_cell BS.out 1).trans rfl
  have hfBS1 := blk_frozen BS.out 1
  have hcBX0 : w12.cell? ⟨gg, 0, none⟩ = some (.slice Ag0 lk0.length cg0) := (blk_cell BX.out 0).trans rfl
  have hfBX0 := blk_frozen BX.out 0
  have hcBX1 : w12.cell? ⟨gg, 1, none⟩ = some (.slice Ag1 lk1.length cg1) := (blk_cell BX.out 1).trans rfl
  have hfBX1 := blk_frozen BX.out 1
  have hcBP0 : w12.cell? ⟨gp, 0, none⟩ = some (.slice Ap0 g0.length cp0) := (blk_cell BP.out 0).trans rfl
  have hfBP0 := blk_frozen BP.out 0
  have hcBP1 : w12.cell? ⟨gp, 1, none⟩ = some (.slice Ap1 g1.length cp1) := (blk_cell BP.out 1).trans rfl
  have hfBP1 := blk_frozen BP.out 1
  go_wp2_with (first | (go_at_call 9; (with_reducible refine (laws_eqGround.calls k Ap0 cp0 g0 Ap1 cp1 g1 As0 cs0 s0 As1 cs1 s1 true _ (Kd.R_reads' HP0.out).2.2 (Kd.R_reads' HP0.out).2.1 (Kd.S_reads' HP1.out).2.2 (Kd.S_reads' HP1.out).2.1 (Kd.R_reads' HS0.out).2.2 (Kd.R_reads' HS0.out).2.1 (Kd.N_reads' HS1.out).2.2 (Kd.N_reads' HS1.out).2.1 BE.out).mono ?_); rintro e w13 ⟨rfl, hb⟩; have Z17 := Aside0.mk (hb.size); have HB_ := Aside0.mk (below_step HB.out hb); have BS_ := Aside0.mk (blk_below (g := gs) (o := .cells #[.slice As0 s0.length cs0, .slice As1 s1.length cs1] 31 (0, 0)) BS.out hb); have BX_ := Aside0.mk (blk_below (g := gg) (o := .cells #[.slice Ag0 lk0.length cg0, .slice Ag1 lk1.length cg1] 31 (0, 0)) BX.out hb); have BP_ := Aside0.mk (blk_below (g := gp) (o := .cells #[.slice Ap0 g0.length cp0, .slice Ap1 g1.length cp1] 31 (0, 0)) BP.out hb); have HS0_ := Aside0.mk (Kd.R_below HS0.out hb); have HS1_ := Aside0.mk (Kd.N_below HS1.out hb); have HM0_ := Aside0.mk (Kd.R_below HM0.out hb); have HM1_ := Aside0.mk (Kd.S_below HM1.out hb); have HP0_ := Aside0.mk (Kd.R_below HP0.out hb); have HP1_ := Aside0.mk (Kd.S_below HP1.out hb); clear hb; clear HB BS BX BP HS0 HS1 HM0 HM1 HP0 HP1; have HB := HB_; have BS := BS_; have BX := BX_; have BP := BP_; have HS0 := HS0_; have HS1 := HS1_; have HM0 := HM0_; have HM1 := HM1_; have HP0 := HP0_; have HP1 := HP1_; clear HB_ BS_ BX_ BP_ HS0_ HS1_ HM0_ HM1_ HP0_ HP1_; clear hcBS0 hfBS0 hcBS1 hfBS1 hcBX0 hfBX0 hcBX1 hfBX1 hcBP0 hfBP0 hcBP1 hfBP1; have hcBS0 : w13.cell? ⟨gs, 0, none⟩ = some (.slice As0 s0.length cs0) := (blk_cell BS.out 0).trans rfl; have hfBS0 := blk_frozen BS.out 0; have hcBS1 : w13.cell? ⟨gs, 1, none⟩ = some (.slice As1 s1.length cs1) := (blk_cell BS.out 1).trans rfl; have hfBS1 := blk_frozen BS.out 1; have hcBX0 : w13.cell? ⟨gg, 0, none⟩ = some (.slice Ag0 lk0.length cg0) := (blk_cell BX.out 0).trans rfl; have hfBX0 := blk_frozen BX.out 0; have hcBX1 : w13.cell? ⟨gg, 1, none⟩ = some (.slice Ag1 lk1.length cg1) := (blk_cell BX.out 1).trans rfl; have hfBX1 := blk_frozen BX.out 1; have hcBP0 : w13.cell? ⟨gp, 0, none⟩ = some (.slice Ap0 g0.length cp0) := (blk_cell BP.out 0).trans rfl; have hfBP0 := blk_frozen BP.out 0; have hcBP1 : w13.cell? ⟨gp, 1, none⟩ = some (.slice Ap1 g1.length cp1) := (blk_cell BP.out 1).trans rfl; have hfBP1 := blk_frozen BP.out 1))
  go_wp2_with (first | (go_at_call 13; (with_reducible refine (laws_heldGround.calls k Ag0 cg0 lk0 Ag1 cg1 lk1 1 th _ (Kd.R_reads' HM0.out).2.2 (Kd.R_reads' HM0.out).2.1 (Kd.S_reads' HM1.out).2.2 (Kd.S_reads' HM1.out).2.1 BH.out).mono ?_); rintro e w14 ⟨rfl, hb⟩; have Z18 := Aside0.mk (hb.size); have HB_ := Aside0.mk (below_step HB.out hb); have BS_ := Aside0.mk (blk_below (g := gs) (o := .cells #[.slice As0 s0.length cs0, .slice As1 s1.length cs1] 31 (0, 0)) BS.out hb); have BX_ := Aside0.mk (blk_below (g := gg) (o := .cells #[.slice Ag0 lk0.length cg0, .slice Ag1 lk1.length cg1] 31 (0, 0)) BX.out hb); have BP_ := Aside0.mk (blk_below (g := gp) (o := .cells #[.slice Ap0 g0.length cp0, .slice Ap1 g1.length cp1] 31 (0, 0)) BP.out hb); have HS0_ := Aside0.mk (Kd.R_below HS0.out hb); have HS1_ := Aside0.mk (Kd.N_below HS1.out hb); have HM0_ := Aside0.mk (Kd.R_below HM0.out hb); have HM1_ := Aside0.mk (Kd.S_below HM1.out hb); have HP0_ := Aside0.mk (Kd.R_below HP0.out hb); have HP1_ := Aside0.mk (Kd.S_below HP1.out hb); clear hb; clear HB BS BX BP HS0 HS1 HM0 HM1 HP0 HP1; have HB := HB_; have BS := BS_; have BX := BX_; have BP := BP_; have HS0 := HS0_; have HS1 := HS1_; have HM0 := HM0_; have HM1 := HM1_; have HP0 := HP0_; have HP1 := HP1_; clear HB_ BS_ BX_ BP_ HS0_ HS1_ HM0_ HM1_ HP0_ HP1_; clear hcBS0 hfBS0 hcBS1 hfBS1 hcBX0 hfBX0 hcBX1 hfBX1 hcBP0 hfBP0 hcBP1 hfBP1; have hcBS0 : w14.cell? ⟨gs, 0, none⟩ = some (.slice As0 s0.length cs0) := (blk_cell BS.out 0).trans rfl; have hfBS0 := blk_frozen BS.out 0; have hcBS1 : w14.cell? ⟨gs, 1, none⟩ = some (.slice As1 s1.length cs1) := (blk_cell BS.out 1).trans rfl; have hfBS1 := blk_frozen BS.out 1; have hcBX0 : w14.cell? ⟨gg, 0, none⟩ = some (.slice Ag0 lk0.length cg0) := (blk_cell BX.out 0).trans rfl; have hfBX0 := blk_frozen BX.out 0; have hcBX1 : w14.cell? ⟨gg, 1, none⟩ = some (.slice Ag1 lk1.length cg1) := (blk_cell BX.out 1).trans rfl; have hfBX1 := blk_frozen BX.out 1; have hcBP0 : w14.cell? ⟨gp, 0, none⟩ = some (.slice Ap0 g0.length cp0) := (blk_cell BP.out 0).trans rfl; have hfBP0 := blk_frozen BP.out 0; have hcBP1 : w14.cell? ⟨gp, 1, none⟩ = some (.slice Ap1 g1.length cp1) := (blk_cell BP.out 1).trans rfl; have hfBP1 := blk_frozen BP.out 1))
  go_ret
  exact ⟨by first | rfl | (simp; done) | (simp [*]; done) | (simp [Int.tdiv_eq_ediv_of_nonneg, *]; done), by repeat (first | (with_reducible first | exact HB.out | apply below_alloc | apply pw_below_drewN | apply below_drew1) | exact HB.out)⟩

def laws_FnExactReadGround.Pure : Prop := ∀ (a0 : ByteArray), a0.size ≤ 140737488351232 → ∃ k, laws_FnExactReadGround.f k a0 = some true
theorem laws_FnExactReadGround.walk (P : laws_FnExactReadGround.Pure) (a0 : ByteArray) (w : World) (w0 : a0.size ≤ 140737488351232) (hT_ : Tab2 w) :
  Calls Tryd.prog 4 #[.string a0] w fun e w' => e = .returned (.bool true) ∧ Below w.heap.size w w' := by
 obtain ⟨k, h⟩ := P a0 w0
 refine (laws_FnExactReadGround.calls k a0 true w hT_ h).mono ?_
 rintro e w' ⟨rfl, hd⟩
 exact ⟨rfl, hd⟩

end Go.Proofs.YtgfpbiaocokdeaaDoor.P
/- Plain facts on numbers and lists that every loop's lemma uses. -/
namespace Go.Proofs.YtgfpbiaocokdeaaDoor.P
open Go.RowKit Go.Proofs.YtgfpbiaocokdeaaDoor.P Go.Proofs.YtgfpbiaocokdeaaDoorW.PrintWords Go.Proofs.YtgfpbiaocokdeaaDoorW.PrintLast Go.Proofs.YtgfpbiaocokdeaaDoorW.PrintMore
set_option linter.unusedVariables false
set_option linter.unusedSimpArgs false
theorem w64 (x : Int) (h1 : -9223372036854775808 ≤ x) (h2 : x ≤ 9223372036854775807) : wrap64 x = x := by unfold wrap64; omega
theorem w64s (i : Nat) (h : i < 9223372036854775807) : wrap64 ((i : Int) + 1) = ((i + 1 : Nat) : Int) := by unfold wrap64; omega
theorem rd_at (l : List Int) (i : Nat) (h : i < l.length) : rd l (i : Int) = l[i] := by
  unfold rd
  rw [Int.toNat_natCast, List.getD_eq_getElem?_getD, List.getElem?_eq_getElem h]
  rfl
theorem drop_at (l : List Int) (i : Nat) (h : i < l.length) : l.drop i = rd l (i : Int) :: l.drop (i + 1) := by
  rw [rd_at l i h, List.drop_eq_getElem_cons h]
theorem fill_step {α : Type} (l acc : List α) (i : Nat) (x : α) (hi : i < l.length) (hl : acc.length = l.length) (h : acc.take i = l.take i) (hx : l[i] = x) : (acc.set i x).take (i + 1) = l.take (i + 1) := by
  subst hx
  have hi2 : i < (acc.set i l[i]).length := by rw [List.length_set]; omega
  rw [List.take_succ_eq_append_getElem hi2, List.take_succ_eq_append_getElem hi, List.getElem_set_self, List.take_set_of_le (Nat.le_refl i), h]
def iota (m : Int) : Nat → List Int
  | 0 => []
  | n + 1 => m :: iota (m + 1) n
theorem iota_length (m : Int) (n : Nat) : (iota m n).length = n := by
  induction n generalizing m with
  | zero => rfl
  | succ n ih => simp [iota, ih]
theorem iota_get (m : Int) (n i : Nat) (h : i < (iota m n).length) : (iota m n)[i] = m + i := by
  induction n generalizing m i with
  | zero => rw [iota_length] at h; omega
  | succ n ih =>
    cases i with
    | zero => simp [iota]
    | succ i =>
      have h2 : i < (iota (m + 1) n).length := by rw [iota_length] at h ⊢; omega
      simp only [iota, List.getElem_cons_succ]
      rw [ih (m + 1) i h2]
      omega
theorem bind_some_ {α β : Type} (a : α) (f : α → Option β) : (some a).bind f = f a := rfl
theorem ite_tt (b r : Bool) : (if b = true then some r else some false) = some (b && r) := by cases b <;> rfl
theorem ite_ff (p : Prop) [Decidable p] (r : Bool) : (if p then some false else some r) = some (!decide p && r) := by by_cases h : p <;> simp [h]
theorem not_ge_dec (a b : Int) : (!decide (a ≥ b)) = decide (a < b) := by by_cases h : a < b <;> simp [h] <;> omega

end Go.Proofs.YtgfpbiaocokdeaaDoor.P
/- The reference's decimal numeral is the library's. -/
namespace Go.Proofs.YtgfpbiaocokdeaaDoor.P
open Go.RowKit Go.Proofs.YtgfpbiaocokdeaaDoor.P Go.Proofs.YtgfpbiaocokdeaaDoorW.PrintWords Go.Proofs.YtgfpbiaocokdeaaDoorW.PrintLast Go.Proofs.YtgfpbiaocokdeaaDoorW.PrintMore
set_option linter.unusedVariables false
set_option linter.unusedSimpArgs false
def tx (l : List UInt8) : ByteArray := ⟨l.toArray⟩
theorem tx_app (a b : List UInt8) : tx a ++ tx b = tx (a ++ b) := by
  apply ByteArray.ext
  rw [ByteArray.data_append]
  simp [tx]
theorem tx_size (l : List UInt8) : (tx l).size = l.length := by
  show l.toArray.size = l.length
  simp
theorem tx_of (b : ByteArray) : tx b.data.toList = b := by
  apply ByteArray.ext
  simp [tx]
theorem tx_data (l : List UInt8) : (tx l).data.toList = l := by simp [tx]
def dd (n : Int) : ByteArray := tx (Lib.itoa n)
theorem dig_is (m : Nat) (hm : m < 18446744073709551616) : strOfNums [(wrap64 (48 - (Int.tmod (-(m : Int)) 10))) % 256] = tx [UInt8.ofNat (48 + m % 10)] := by
  have e : Int.tmod (-(m : Int)) 10 = -((m % 10 : Nat) : Int) := by
    rw [Int.neg_tmod]
    rfl
  have hlt := Nat.mod_lt m (show 0 < 10 by decide)
  rw [e, w64 _ (by omega) (by omega)]
  unfold strOfNums tx
  simp only [List.map_cons, List.map_nil]
  rw [show ((48 - -((m % 10 : Nat) : Int)) % 256).toNat = 48 + m % 10 by omega]
theorem tdiv_is (m : Nat) (hm : m ≤ 9223372036854775808) : wrap64 (Int.tdiv (-(m : Int)) 10) = -((m / 10 : Nat) : Int) := by
  have e : Int.tdiv (-(m : Int)) 10 = -((m / 10 : Nat) : Int) := by
    rw [Int.neg_tdiv]
    rfl
  rw [e, w64 _ (by omega) (by omega)]
theorem decDigits_low {m : Nat} (h : m < 10) : Lib.decDigits m = [UInt8.ofNat (48 + m % 10)] := by
  rw [Lib.decDigits_one h, Nat.mod_eq_of_lt h]
theorem decDigits_more {m : Nat} (h : ¬ m < 10) : Lib.decDigits m = Lib.decDigits (m / 10) ++ [UInt8.ofNat (48 + m % 10)] := by
  rw [Lib.decDigits, dif_neg h]
theorem dec_l0 (x : ByteArray) (hx : x.size ≤ 1000) : ∀ (d k m : Nat) (acc : List UInt8), m < 10 ^ d → m ≤ 9223372036854775808 → d < k → acc.length + d ≤ 1000 → spec_l01Dec.l0 k x (-(m : Int)) (tx acc) = some (x ++ tx ((if m = 0 then [] else Lib.decDigits m) ++ acc)) := by
  intro d
  induction d with
  | zero =>
    intro k m acc hm _ hk ha
    obtain ⟨k, rfl⟩ : ∃ q, k = q + 1 := ⟨k - 1, by omega⟩
    have : m = 0 := by simp at hm; omega
    subst this
    simp only [spec_l01Dec.l0]
    rw [if_neg (by omega), tx_size, if_pos (by omega)]
    simp
  | succ d ih =>
    intro k m acc hm hb hk ha
    obtain ⟨k, rfl⟩ : ∃ q, k = q + 1 := ⟨k - 1, by omega⟩
    simp only [spec_l01Dec.l0]
    by_cases h0 : m = 0
    · subst h0
      rw [if_neg (by omega), tx_size, if_pos (by omega)]
      simp
    · rw [if_pos (by omega), bind_some_, dig_is m (by omega), tx_size, tx_size, if_pos (by simp only [List.length_cons, List.length_nil]; omega), tdiv_is m hb, tx_app, ih k (m / 10) _ (by rw [Nat.pow_succ] at hm; omega) (by omega) (by omega) (by simp only [List.length_append, List.length_cons, List.length_nil]; omega), if_neg h0]
      by_cases h1 : m < 10
      · rw [if_pos (by omega), decDigits_low h1, List.nil_append]
      · rw [if_neg (by omega), decDigits_more h1, List.append_assoc]
theorem dec_j0 (x : ByteArray) (hx : x.size ≤ 1000) (k m : Nat) (hm : m ≤ 9223372036854775808) (hk : 30 < k) : spec_l01Dec.j0 k x (-(m : Int)) = some (x ++ tx (Lib.decDigits m)) := by
  obtain ⟨k, rfl⟩ : ∃ q, k = q + 1 := ⟨k - 1, by omega⟩
  simp only [spec_l01Dec.j0]
  rw [dig_is m (by omega), tdiv_is m hm, dec_l0 x hx 20 k (m / 10) _ (by omega) (by omega) (by omega) (by simp)]
  by_cases h1 : m < 10
  · rw [if_pos (by omega), decDigits_low h1, List.nil_append]
  · rw [if_neg (by omega), decDigits_more h1]
theorem specDec_is (k : Nat) (n : Int) (hn : -9223372036854775808 ≤ n ∧ n ≤ 9223372036854775807) (hk : 30 < k) : spec_l01Dec.f k n = some (dd n) := by
  unfold spec_l01Dec.f dd Lib.itoa
  by_cases h : n < 0
  · obtain ⟨m, e⟩ : ∃ m : Nat, n = -(m : Int) := ⟨n.natAbs, by omega⟩
    subst e
    rw [if_pos h, dec_j0 _ (by decide) k m (by omega) hk, if_pos h, show (-(m : Int)).natAbs = m by omega, show (⟨#[45]⟩ : ByteArray) = tx [45] from rfl, tx_app]
    rfl
  · obtain ⟨m, e⟩ : ∃ m : Nat, n = (m : Int) := ⟨n.toNat, by omega⟩
    subst e
    rw [if_neg h, w64 _ (by omega) (by omega), dec_j0 _ (by decide) k m (by omega) hk, if_neg h, Int.toNat_natCast, show (⟨#[]⟩ : ByteArray) = tx [] from rfl, tx_app, List.nil_append]
theorem lit1 (x : UInt8) : (⟨#[x]⟩ : ByteArray) = tx [x] := rfl
end Go.Proofs.YtgfpbiaocokdeaaDoor.P
/- A list that was marked still holds its marks. -/
namespace Go.Proofs.YtgfpbiaocokdeaaDoor.P
open Go.RowKit Go.Proofs.YtgfpbiaocokdeaaDoor.P Go.Proofs.YtgfpbiaocokdeaaDoorW.PrintWords Go.Proofs.YtgfpbiaocokdeaaDoorW.PrintLast Go.Proofs.YtgfpbiaocokdeaaDoorW.PrintMore
set_option linter.unusedVariables false
set_option linter.unusedSimpArgs false
theorem heldInt_loop (n : Nat) (hb : n ≤ 4000000000000000000) (m : Int) (hm : 0 ≤ m ∧ m ≤ 4000000000000000000) : ∀ (d k i : Nat), i + d = n → d < k → laws_heldInt64S.l0 k (iota m n) (m + i) i = some (m + n) := by
  intro d
  induction d with
  | zero =>
    intro k i hi hk
    obtain ⟨k, rfl⟩ : ∃ m, k = m + 1 := ⟨k - 1, by omega⟩
    simp only [laws_heldInt64S.l0]
    rw [if_neg (by rw [iota_length]; omega), show i = n by omega]
  | succ d ih =>
    intro k i hi hk
    obtain ⟨k, rfl⟩ : ∃ m, k = m + 1 := ⟨k - 1, by omega⟩
    simp only [laws_heldInt64S.l0]
    have hr : rd (iota m n) i = m + i := by rw [rd_at _ i (by rw [iota_length]; omega), iota_get]
    rw [if_pos (by rw [iota_length]; omega), if_pos (by omega), if_pos hr, w64s i (by omega), w64 (m + i + 1) (by omega) (by omega), show m + (i : Int) + 1 = m + ((i + 1 : Nat) : Int) by omega]
    exact ih k (i + 1) (by omega) (by omega)
theorem heldInt_is (k : Nat) (n : Nat) (m : Int) (hm : 0 ≤ m ∧ m ≤ 4000000000000000000) (hb : n ≤ 4000000000000000000) (hk : n < k) : laws_heldInt64S.f k (iota m n) m = some (m + n) := by
  unfold laws_heldInt64S.f
  have := heldInt_loop n hb m hm n k 0 (by omega) hk
  simpa using this

end Go.Proofs.YtgfpbiaocokdeaaDoor.P
/- A list is marked with rising numbers, and still holds them. -/
namespace Go.Proofs.YtgfpbiaocokdeaaDoor.P
open Go.RowKit Go.Proofs.YtgfpbiaocokdeaaDoor.P Go.Proofs.YtgfpbiaocokdeaaDoorW.PrintWords Go.Proofs.YtgfpbiaocokdeaaDoorW.PrintLast Go.Proofs.YtgfpbiaocokdeaaDoorW.PrintMore
set_option linter.unusedVariables false
set_option linter.unusedSimpArgs false
theorem markInt_loop (n : Nat) (hb : n ≤ 4000000000000000000) (m : Int) (hm : 0 ≤ m ∧ m ≤ 4000000000000000000) : ∀ (d k i : Nat) (l : List Int), i + d = n → d < k → l.length = n → l.take i = (iota m n).take i → laws_markInt64S.l0 k l (m + i) i = some (m + n, iota m n) := by
  intro d
  induction d with
  | zero =>
    intro k i l hi hk hl ht
    obtain ⟨k, rfl⟩ : ∃ m, k = m + 1 := ⟨k - 1, by omega⟩
    simp only [laws_markInt64S.l0]
    rw [if_neg (by omega)]
    rw [List.take_of_length_le (by omega), List.take_of_length_le (by rw [iota_length]; omega)] at ht
    rw [ht, show i = n by omega]
  | succ d ih =>
    intro k i l hi hk hl ht
    obtain ⟨k, rfl⟩ : ∃ m, k = m + 1 := ⟨k - 1, by omega⟩
    simp only [laws_markInt64S.l0]
    rw [if_pos (by omega), if_pos (by omega), w64s i (by omega), Int.toNat_natCast, w64 (m + i + 1) (by omega) (by omega), show m + (i : Int) + 1 = m + ((i + 1 : Nat) : Int) by omega]
    exact ih k (i + 1) _ (by omega) (by omega) (by rw [List.length_set]; exact hl) (fill_step (iota m n) l i _ (by rw [iota_length]; omega) (by rw [iota_length]; exact hl) ht (iota_get m n i (by rw [iota_length]; omega)))
theorem markInt_is (k : Nat) (l : List Int) (m : Int) (hm : 0 ≤ m ∧ m ≤ 4000000000000000000) (hb : l.length ≤ 4000000000000000000) (hk : l.length < k) : laws_markInt64S.f k l m = some (m + l.length, iota m l.length) := by
  unfold laws_markInt64S.f
  have := markInt_loop l.length hb m hm l.length k 0 l (by omega) hk rfl (by simp)
  simpa using this

end Go.Proofs.YtgfpbiaocokdeaaDoor.P
/- Two lists of numbers are compared. -/
namespace Go.Proofs.YtgfpbiaocokdeaaDoor.P
open Go.RowKit Go.Proofs.YtgfpbiaocokdeaaDoor.P Go.Proofs.YtgfpbiaocokdeaaDoorW.PrintWords Go.Proofs.YtgfpbiaocokdeaaDoorW.PrintLast Go.Proofs.YtgfpbiaocokdeaaDoorW.PrintMore
set_option linter.unusedVariables false
set_option linter.unusedSimpArgs false
theorem eqInt_loop (a b : List Int) (hl : a.length = b.length) (hb : a.length ≤ 9223372036854775807) : ∀ (d k i : Nat), i + d = a.length → d < k → laws_eqInt64S.l0 k a b i = some (decide (a.drop i = b.drop i)) := by
  intro d
  induction d with
  | zero =>
    intro k i hi hk
    obtain ⟨k, rfl⟩ : ∃ m, k = m + 1 := ⟨k - 1, by omega⟩
    simp only [laws_eqInt64S.l0]
    rw [if_neg (by omega), List.drop_of_length_le (by omega), List.drop_of_length_le (by omega)]
    simp
  | succ d ih =>
    intro k i hi hk
    obtain ⟨k, rfl⟩ : ∃ m, k = m + 1 := ⟨k - 1, by omega⟩
    simp only [laws_eqInt64S.l0]
    rw [if_pos (by omega), if_pos (by omega), if_pos (by omega), w64s i (by omega), ih k (i + 1) (by omega) (by omega), drop_at a i (by omega), drop_at b i (by omega)]
    by_cases h : rd a i = rd b i
    · rw [if_pos h]; simp [h]
    · rw [if_neg h]; simp [h]
theorem eqInt_is (k : Nat) (a b : List Int) (hb : a.length ≤ 9223372036854775807) (hk : a.length < k) : laws_eqInt64S.f k a b = some (decide (a = b)) := by
  unfold laws_eqInt64S.f
  by_cases h : a.length = b.length
  · rw [if_pos (by omega)]
    have := eqInt_loop a b h hb a.length k 0 (by omega) hk
    simpa using this
  · rw [if_neg (by omega)]
    have : a ≠ b := fun e => h (by rw [e])
    simp [this]

end Go.Proofs.YtgfpbiaocokdeaaDoor.P
namespace Go.Proofs.YtgfpbiaocokdeaaDoor.P
open Go.RowKit Go.Proofs.YtgfpbiaocokdeaaDoorW.PrintWords Go.Proofs.YtgfpbiaocokdeaaDoorW.PrintLast Go.Proofs.YtgfpbiaocokdeaaDoorW.PrintMore
attribute [local go_sem] max2_int min2_int max_two min_two max_three min_three max_four min_four   -- for this text's walks alone
set_option linter.unusedVariables false
set_option linter.unusedSimpArgs false

end Go.Proofs.YtgfpbiaocokdeaaDoor.P
/- A list of numbers is copied. -/
namespace Go.Proofs.YtgfpbiaocokdeaaDoor.P
open Go.RowKit Go.Proofs.YtgfpbiaocokdeaaDoor.P Go.Proofs.YtgfpbiaocokdeaaDoorW.PrintWords Go.Proofs.YtgfpbiaocokdeaaDoorW.PrintLast Go.Proofs.YtgfpbiaocokdeaaDoorW.PrintMore
set_option linter.unusedVariables false
set_option linter.unusedSimpArgs false
end Go.Proofs.YtgfpbiaocokdeaaDoor.P
/- A list of the law's own structs that hold lists is copied into the program's, measured, and equal to itself. -/
namespace Go.Proofs.YtgfpbiaocokdeaaDoor.P
open Go.RowKit Go.Proofs.YtgfpbiaocokdeaaDoor.P Go.Proofs.YtgfpbiaocokdeaaDoorW.PrintWords Go.Proofs.YtgfpbiaocokdeaaDoorW.PrintLast Go.Proofs.YtgfpbiaocokdeaaDoorW.PrintMore
set_option linter.unusedVariables false
set_option linter.unusedSimpArgs false
theorem rdHole_at (l : List S49) (i : Nat) (h : i < l.length) : rd_T49 l (i : Int) = l[i] := by
  unfold rd_T49
  rw [Int.toNat_natCast, List.getD_eq_getElem?_getD, List.getElem?_eq_getElem h]
  rfl
def shortH (l : List S49) : Prop := l.length ≤ 1048576 ∧ ∀ s ∈ l, s.f1.length ≤ 1048576
theorem shortH_at {l : List S49} (h : shortH l) (i : Nat) (hi : i < l.length) : (rd_T49 l (i : Int)).f1.length ≤ 1048576 := by
  rw [rdHole_at l i hi]
  exact h.2 _ (List.getElem_mem hi)
theorem eqHoleS_loop (a : List S49) (hs : shortH a) : ∀ (d k i : Nat), i + d = a.length → d + 1048576 < k → laws_eqHoleS.l0 k a a i = some true := by
  intro d
  have hb := hs.1
  induction d with
  | zero =>
    intro k i hi hk
    obtain ⟨k, rfl⟩ : ∃ m, k = m + 1 := ⟨k - 1, by omega⟩
    simp only [laws_eqHoleS.l0]
    rw [if_neg (by omega)]
  | succ d ih =>
    intro k i hi hk
    obtain ⟨k, rfl⟩ : ∃ m, k = m + 1 := ⟨k - 1, by omega⟩
    have h1 := shortH_at hs i (by omega)
    simp only [laws_eqHoleS.l0, laws_eqHole.f, if_true]
    rw [if_pos (by omega), if_pos (by omega), if_pos (by omega), eqInt_is k _ _ (by omega) (by omega), bind_some_, if_pos (decide_eq_true rfl), bind_some_, if_pos rfl, w64s i (by omega)]
    exact ih k (i + 1) (by omega) (by omega)
theorem eqHoleS_refl (k : Nat) (a : List S49) (hs : shortH a) (hk : a.length + 1048576 < k) : laws_eqHoleS.f k a a = some true := by
  unfold laws_eqHoleS.f
  rw [if_pos rfl]
  exact eqHoleS_loop a hs a.length k 0 (by omega) hk
end Go.Proofs.YtgfpbiaocokdeaaDoor.P
/- Holes are marked with rising numbers. -/
namespace Go.Proofs.YtgfpbiaocokdeaaDoor.P
open Go.RowKit Go.Proofs.YtgfpbiaocokdeaaDoor.P Go.Proofs.YtgfpbiaocokdeaaDoorW.PrintWords Go.Proofs.YtgfpbiaocokdeaaDoorW.PrintLast Go.Proofs.YtgfpbiaocokdeaaDoorW.PrintMore
set_option linter.unusedVariables false
set_option linter.unusedSimpArgs false
def iotaHole : Int → List S49 → List S49
  | _, [] => []
  | m, r :: rs => ⟨m, iota (m + 1) r.f1.length⟩ :: iotaHole (m + 1 + r.f1.length) rs
def cntHole : List S49 → Nat
  | [] => 0
  | r :: rs => 1 + r.f1.length + cntHole rs
theorem cntHole_le : ∀ rs : List S49, (∀ s ∈ rs, s.f1.length ≤ 1048576) → cntHole rs ≤ 1048577 * rs.length
  | [], _ => by simp [cntHole]
  | r :: rs, h => by
    have h1 := h r (by simp)
    have h2 := cntHole_le rs (fun s hs => h s (by simp [hs]))
    simp only [cntHole, List.length_cons]
    omega
theorem markHole_loop : ∀ (todo : List S49) (k : Nat) (pre : List S49) (m : Int), (pre.length + todo.length : Int) ≤ 4000000000000000000 → (∀ s ∈ todo, s.f1.length ≤ 1048576) → 1048577 + todo.length < k → 0 ≤ m → m + cntHole todo ≤ 3000000000000000000 → laws_markHoleS.l0 k (pre ++ todo) m pre.length = some (m + cntHole todo, pre ++ iotaHole m todo) := by
  intro todo
  induction todo with
  | nil =>
    intro k pre m h1 hr h2 h3 h4
    obtain ⟨k, rfl⟩ : ∃ m, k = m + 1 := ⟨k - 1, by omega⟩
    simp only [laws_markHoleS.l0]
    rw [if_neg (by simp)]
    simp [cntHole, iotaHole]
  | cons r rs ih =>
    intro k pre m h1 hr h2 h3 h4
    obtain ⟨k, rfl⟩ : ∃ m, k = m + 1 := ⟨k - 1, by omega⟩
    have hl := hr r (by simp)
    simp only [cntHole, List.length_cons] at h1 h2 h4
    have e1 : rd_T49 (pre ++ r :: rs) (pre.length : Int) = r := by
      unfold rd_T49
      rw [Int.toNat_natCast, List.getD_eq_getElem?_getD, List.getElem?_append_right (Nat.le_refl _), Nat.sub_self]
      rfl
    have e2 : ∀ v : S49, (pre ++ r :: rs).set ((pre.length : Int)).toNat v = (pre ++ [v]) ++ rs := by
      intro v
      rw [Int.toNat_natCast, List.set_append_right _ _ (Nat.le_refl _), Nat.sub_self]
      simp
    have e3 : pre.length + 1 = (pre ++ [(⟨m, iota (m + 1) r.f1.length⟩ : S49)]).length := by simp
    simp only [laws_markHoleS.l0]
    rw [if_pos (by simp; omega), if_pos (by omega), e1, w64 (m + 1) (by omega) (by omega), markInt_is k r.f1 (m + 1) (by omega) (by omega) (by omega), bind_some_, e2, w64s pre.length (by omega), e3, ih k _ (m + 1 + r.f1.length) (by simp; omega) (fun s hs => hr s (by simp [hs])) (by omega) (by omega) (by omega)]
    simp only [cntHole, iotaHole, List.append_assoc, List.singleton_append, Int.natCast_add, Int.add_assoc]
    rfl
theorem markHole_is (k : Nat) (rs : List S49) (m : Int) (hp : shortH rs) (hm : 0 ≤ m ∧ m ≤ 1000000000) (hk : 3000000 < k) : laws_markHoleS.f k rs m = some (m + (cntHole rs : Int), iotaHole m rs) := by
  have h1 := hp.1
  have h2 := cntHole_le rs hp.2
  have h3 : 1048577 * rs.length ≤ 1048577 * 1048576 := Nat.mul_le_mul (Nat.le_refl _) h1
  have e1 := markHole_loop rs k [] m (by simp; omega) hp.2 (by omega) (by omega) (by omega)
  exact e1

end Go.Proofs.YtgfpbiaocokdeaaDoor.P
/- Holes that were marked still hold their marks. -/
namespace Go.Proofs.YtgfpbiaocokdeaaDoor.P
open Go.RowKit Go.Proofs.YtgfpbiaocokdeaaDoor.P Go.Proofs.YtgfpbiaocokdeaaDoorW.PrintWords Go.Proofs.YtgfpbiaocokdeaaDoorW.PrintLast Go.Proofs.YtgfpbiaocokdeaaDoorW.PrintMore
set_option linter.unusedVariables false
set_option linter.unusedSimpArgs false
theorem heldHole_loop : ∀ (todo : List S49) (k : Nat) (pre : List S49) (m : Int), (pre.length + todo.length : Int) ≤ 4000000000000000000 → (∀ s ∈ todo, s.f1.length ≤ 1048576) → 1048577 + todo.length < k → 0 ≤ m → m + cntHole todo ≤ 3000000000000000000 → laws_heldHoleS.l0 k (pre ++ iotaHole m todo) m pre.length = some (m + cntHole todo) := by
  intro todo
  induction todo with
  | nil =>
    intro k pre m h1 hr h2 h3 h4
    obtain ⟨k, rfl⟩ : ∃ m, k = m + 1 := ⟨k - 1, by omega⟩
    simp only [laws_heldHoleS.l0]
    rw [if_neg (by simp [iotaHole])]
    simp [cntHole]
  | cons r rs ih =>
    intro k pre m h1 hr h2 h3 h4
    obtain ⟨k, rfl⟩ : ∃ m, k = m + 1 := ⟨k - 1, by omega⟩
    have hl := hr r (by simp)
    simp only [cntHole, List.length_cons] at h1 h2 h4
    have e1 : rd_T49 (pre ++ iotaHole m (r :: rs)) (pre.length : Int) = ⟨m, iota (m + 1) r.f1.length⟩ := by
      unfold rd_T49
      rw [Int.toNat_natCast, List.getD_eq_getElem?_getD, List.getElem?_append_right (Nat.le_refl _), Nat.sub_self]
      rfl
    have e2 : pre ++ iotaHole m (r :: rs) = (pre ++ [(⟨m, iota (m + 1) r.f1.length⟩ : S49)]) ++ iotaHole (m + 1 + r.f1.length) rs := by simp [iotaHole]
    have e3 : pre.length + 1 = (pre ++ [(⟨m, iota (m + 1) r.f1.length⟩ : S49)]).length := by simp
    simp only [laws_heldHoleS.l0]
    rw [if_pos (by simp [iotaHole]; omega), if_pos (by omega), e1, if_pos rfl, w64 (m + 1) (by omega) (by omega)]
    try dsimp only
    rw [heldInt_is k r.f1.length (m + 1) (by omega) (by omega) (by omega), bind_some_, if_neg (by omega), w64s pre.length (by omega), e3, e2, ih k _ (m + 1 + r.f1.length) (by simp; omega) (fun s hs => hr s (by simp [hs])) (by omega) (by omega) (by omega)]
    simp only [cntHole, Int.natCast_add, Int.add_assoc]
    rfl
theorem heldHole_is (k : Nat) (rs : List S49) (m : Int) (hp : shortH rs) (hm : 0 ≤ m ∧ m ≤ 1000000000) (hk : 3000000 < k) : laws_heldHoleS.f k (iotaHole m rs) m = some (m + (cntHole rs : Int)) := by
  have h1 := hp.1
  have h2 := cntHole_le rs hp.2
  have h3 : 1048577 * rs.length ≤ 1048577 * 1048576 := Nat.mul_le_mul (Nat.le_refl _) h1
  have e1 := heldHole_loop rs k [] m (by simp; omega) hp.2 (by omega) (by omega) (by omega)
  exact e1
theorem markedGround (k : Nat) (ds : List Int) (hs : List S49) (hd : ds.length ≤ 1048576) (hp : shortH hs) (hk : 3000000 < k) : ∃ b, laws_markGround.f k ds hs 1 = some b ∧ 0 ≤ b.1 ∧ ∀ k2, 3000000 < k2 → laws_heldGround.f k2 b.2.1 b.2.2 1 = some b.1 := by
  unfold laws_markGround.f
  rw [markInt_is k ds 1 (by omega) (by omega) (by omega), bind_some_]
  try dsimp only
  rw [markHole_is k hs (1 + ds.length) hp ⟨by omega, by omega⟩ (by omega), bind_some_]
  refine ⟨_, rfl, by dsimp only; omega, fun k2 h2 => ?_⟩
  unfold laws_heldGround.f
  dsimp only
  rw [heldInt_is k2 ds.length 1 (by omega) (by omega) (by omega), bind_some_, if_neg (by omega), heldHole_is k2 hs (1 + ds.length) hp ⟨by omega, by omega⟩ (by omega), bind_some_, if_neg (by omega)]

end Go.Proofs.YtgfpbiaocokdeaaDoor.P
/- A ground is copied, measured, marked, and equal to itself. -/
namespace Go.Proofs.YtgfpbiaocokdeaaDoor.P
open Go.RowKit Go.Proofs.YtgfpbiaocokdeaaDoor.P Go.Proofs.YtgfpbiaocokdeaaDoorW.PrintWords Go.Proofs.YtgfpbiaocokdeaaDoorW.PrintLast Go.Proofs.YtgfpbiaocokdeaaDoorW.PrintMore
set_option linter.unusedVariables false
set_option linter.unusedSimpArgs false
theorem eqGround_refl (k : Nat) (ds : List Int) (hs : List S49) (hd : ds.length ≤ 1048576) (hp : shortH hs) (hk : 3000000 < k) : laws_eqGround.f k ds hs ds hs = some true := by
  have := hp.1
  unfold laws_eqGround.f
  rw [eqInt_is k ds ds (by omega) (by omega), bind_some_, if_pos (decide_eq_true rfl), eqHoleS_refl k hs hp (by omega), bind_some_, if_pos rfl]
end Go.Proofs.YtgfpbiaocokdeaaDoor.P
/- A text cut at the first place of another one. -/
namespace Go.Proofs.YtgfpbiaocokdeaaDoor.P
open Go.RowKit Go.Proofs.YtgfpbiaocokdeaaDoor.P Go.Proofs.YtgfpbiaocokdeaaDoorW.PrintWords Go.Proofs.YtgfpbiaocokdeaaDoorW.PrintLast Go.Proofs.YtgfpbiaocokdeaaDoorW.PrintMore
set_option linter.unusedVariables false
set_option linter.unusedSimpArgs false
theorem idx_app (c : UInt8) (t r : List UInt8) : ∀ p : List UInt8, c ∉ p → Lib.index (p ++ ((c :: t) ++ r)) (c :: t) = (p.length : Int)
  | [], _ => by
    have h : (c :: t).isPrefixOf ((c :: t) ++ r) = true := List.isPrefixOf_iff_prefix.mpr (List.prefix_append _ _)
    rw [List.cons_append] at h
    rw [List.nil_append]
    show Lib.index (c :: (t ++ r)) (c :: t) = 0
    unfold Lib.index
    rw [if_pos h]
  | b :: p, hc => by
    have hb : ¬ c = b := fun e => hc (by simp [e])
    have h : (c :: t).isPrefixOf (b :: (p ++ ((c :: t) ++ r))) = false := by
      simp only [List.isPrefixOf]
      rw [beq_eq_false_iff_ne.mpr hb, Bool.false_and]
    have ih := idx_app c t r p (fun e => hc (by simp [e]))
    rw [List.cons_append]
    unfold Lib.index
    rw [h, ih, if_neg (by simp), if_neg (by simp), List.length_cons]
    omega
theorem cut_app (c : UInt8) (t r p : List UInt8) (h : c ∉ p) : Lib.cut (p ++ ((c :: t) ++ r)) (c :: t) = (p, r, true) := by
  unfold Lib.cut
  rw [idx_app c t r p h, if_pos (by omega), Int.toNat_natCast, List.take_left', List.drop_append, List.drop_of_length_le (by omega)]
  · congr 1
    rw [List.nil_append, show p.length + (c :: t).length - p.length = (c :: t).length by omega, List.drop_left]
  · rfl
theorem cut_len (s p : List UInt8) : (Lib.cut s p).1.length ≤ s.length ∧ (Lib.cut s p).2.1.length ≤ s.length := by
  unfold Lib.cut
  split
  · simp only [List.length_take, List.length_drop]
    omega
  · simp
theorem ext_tx (s : List UInt8) (f i : Nat) : (tx s).extract f i = tx ((s.drop f).take (i - f)) := by
  apply ByteArray.ext
  rw [ByteArray.data_extract]
  simp [tx]

end Go.Proofs.YtgfpbiaocokdeaaDoor.P
/- A test at each of some numbers that follow one another. -/
namespace Go.Proofs.YtgfpbiaocokdeaaDoor.P
open Go.RowKit Go.Proofs.YtgfpbiaocokdeaaDoor.P Go.Proofs.YtgfpbiaocokdeaaDoorW.PrintWords Go.Proofs.YtgfpbiaocokdeaaDoorW.PrintLast Go.Proofs.YtgfpbiaocokdeaaDoorW.PrintMore
set_option linter.unusedVariables false
set_option linter.unusedSimpArgs false
def upTo (p : Nat → Bool) : Nat → Nat → Bool
  | 0, _ => true
  | d + 1, i => p i && upTo p d (i + 1)
theorem upTo_iff (p : Nat → Bool) : ∀ (d i : Nat), upTo p d i = true ↔ ∀ j, i ≤ j → j < i + d → p j = true := by
  intro d
  induction d with
  | zero => intro i; simp [upTo]; intro j h1 h2; omega
  | succ d ih =>
    intro i
    simp only [upTo, Bool.and_eq_true, ih]
    constructor
    · intro ⟨h0, h⟩ j h1 h2
      by_cases e : i = j
      · rw [← e]; exact h0
      · exact h j (by omega) (by omega)
    · intro h
      exact ⟨h i (Nat.le_refl _) (by omega), fun j h1 h2 => h j (by omega) (by omega)⟩

end Go.Proofs.YtgfpbiaocokdeaaDoor.P
/- What is asked of a ground, and the tops of its classes, plainly. -/
namespace Go.Proofs.YtgfpbiaocokdeaaDoor.P
open Go.RowKit Go.Proofs.YtgfpbiaocokdeaaDoor.P Go.Proofs.YtgfpbiaocokdeaaDoorW.PrintWords Go.Proofs.YtgfpbiaocokdeaaDoorW.PrintLast Go.Proofs.YtgfpbiaocokdeaaDoorW.PrintMore
set_option linter.unusedVariables false
set_option linter.unusedSimpArgs false
def dnOk (l : List Int) (i : Nat) : Bool := decide (i = 0) || decide (rd l (i : Int) ≤ rd l ((i - 1 : Nat) : Int))
def topsOk (n : Int) (l : List Int) : Bool := decide ((l.length : Int) = n) && (impl_areWithin.all (-100000) 100000 l && upTo (dnOk l) l.length 0)
def holeOk (n : Int) (hs : List S49) (i : Nat) : Bool := decide (0 ≤ (rd_T49 hs (i : Int)).f0 ∧ (rd_T49 hs (i : Int)).f0 ≤ 60) && (topsOk n (rd_T49 hs (i : Int)).f1 && (decide (i = 0) || decide ((rd_T49 hs ((i - 1 : Nat) : Int)).f0 < (rd_T49 hs (i : Int)).f0)))
def grOk (ds : List Int) (hs : List S49) : Bool := decide (1 ≤ (ds.length : Int) ∧ (ds.length : Int) ≤ 4) && (impl_areWithin.all 1 3000 ds && (decide (1 ≤ (hs.length : Int) ∧ (hs.length : Int) ≤ 6) && upTo (holeOk ds.length hs) hs.length 0))
theorem upTo_and (p q : Nat → Bool) : ∀ d i : Nat, upTo (fun j => p j && q j) d i = (upTo p d i && upTo q d i)
  | 0, _ => rfl
  | d + 1, i => by
    simp only [upTo, upTo_and p q d (i + 1)]
    cases p i <;> cases q i <;> cases upTo p d (i + 1) <;> cases upTo q d (i + 1) <;> rfl
theorem all_upTo (lo hi : Int) (l : List Int) : impl_areWithin.all lo hi l = upTo (fun i => decide (lo ≤ rd l (i : Int) ∧ rd l (i : Int) ≤ hi)) l.length 0 := by
  rw [Bool.eq_iff_iff, upTo_iff]
  unfold impl_areWithin.all
  rw [List.all_eq_true]
  constructor
  · intro h j _ hj
    have hj2 : j < l.length := by omega
    have := h _ (List.getElem_mem hj2)
    rw [rd_at l j hj2]
    exact this
  · intro h x hx
    obtain ⟨j, hj, rfl⟩ := List.getElem_of_mem hx
    have := h j (by omega) (by omega)
    rw [rd_at l j hj] at this
    exact this
theorem grOk_in {ds : List Int} {hs : List S49} (h : grOk ds hs = true) : (1 ≤ ds.length ∧ ds.length ≤ 4) ∧ (1 ≤ hs.length ∧ hs.length ≤ 6) ∧ (∀ i : Nat, i < ds.length → 1 ≤ rd ds (i : Int) ∧ rd ds (i : Int) ≤ 3000) ∧ ∀ i : Nat, i < hs.length → holeOk ds.length hs i = true := by
  unfold grOk at h
  rw [all_upTo] at h
  simp only [Bool.and_eq_true, decide_eq_true_eq] at h
  obtain ⟨h1, h2, h3, h4⟩ := h
  refine ⟨by omega, by omega, ?_, ?_⟩
  · intro i hi
    have := (upTo_iff _ _ _).mp h2 i (by omega) (by omega)
    simpa using this
  · intro i hi
    exact (upTo_iff _ _ _).mp h4 i (by omega) (by omega)
end Go.Proofs.YtgfpbiaocokdeaaDoor.P
/- Texts joined with a byte between them, as both sides write them. -/
namespace Go.Proofs.YtgfpbiaocokdeaaDoor.P
open Go.RowKit Go.Proofs.YtgfpbiaocokdeaaDoor.P Go.Proofs.YtgfpbiaocokdeaaDoorW.PrintWords Go.Proofs.YtgfpbiaocokdeaaDoorW.PrintLast Go.Proofs.YtgfpbiaocokdeaaDoorW.PrintMore
set_option linter.unusedVariables false
set_option linter.unusedSimpArgs false
def jn {α : Type} (f : α → List UInt8) (c : UInt8) (l : List α) : List UInt8 := Lib.join (l.map f) [c]
theorem jn_nil {α : Type} (f : α → List UInt8) (c : UInt8) : jn f c [] = [] := rfl
theorem jn_one {α : Type} (f : α → List UInt8) (c : UInt8) (x : α) : jn f c [x] = f x := Lib.join_one _ _
theorem jn_cons {α : Type} (f : α → List UInt8) (c : UInt8) (x : α) (l : List α) : jn f c (x :: l) = f x ++ (l.map (fun y => c :: f y)).flatten := by
  unfold jn
  rw [List.map_cons, Lib.join_cons]
  unfold Lib.joinTail
  rw [List.map_map]
  rfl
theorem jn_snoc {α : Type} (f : α → List UInt8) (c : UInt8) : ∀ (l : List α) (x : α), l ≠ [] → jn f c (l ++ [x]) = (jn f c l ++ [c]) ++ f x
  | [], x, h => absurd rfl h
  | y :: l, x, _ => by
    rw [List.cons_append, jn_cons, jn_cons, List.map_append, List.flatten_append]
    simp
theorem flat_len {α : Type} (g : α → List UInt8) (M : Nat) : ∀ l : List α, (∀ x ∈ l, (g x).length ≤ M) → (l.map g).flatten.length ≤ l.length * M
  | [], _ => by simp
  | x :: l, h => by
    have h1 := h x (by simp)
    have h2 := flat_len g M l (fun y hy => h y (by simp [hy]))
    rw [List.map_cons, List.flatten_cons, List.length_append, List.length_cons, Nat.succ_mul]
    omega
theorem jn_len {α : Type} (f : α → List UInt8) (c : UInt8) (M : Nat) : ∀ l : List α, (∀ x ∈ l, (f x).length ≤ M) → (jn f c l).length ≤ l.length * (M + 1)
  | [], _ => by simp [jn_nil]
  | x :: l, h => by
    have h1 := h x (by simp)
    have h2 := flat_len (fun y => c :: f y) (M + 1) l (fun y hy => by have := h y (by simp [hy]); rw [List.length_cons]; omega)
    rw [jn_cons, List.length_append, List.length_cons, Nat.succ_mul]
    omega
theorem jn_take {α : Type} (f : α → List UInt8) (c : UInt8) (l : List α) (i : Nat) (h : i < l.length) : jn f c (l.take (i + 1)) = if i = 0 then f l[i] else (jn f c (l.take i) ++ [c]) ++ f l[i] := by
  rw [List.take_add_one, List.getElem?_eq_getElem h]
  simp only [Option.toList_some]
  split
  · rename_i e
    subst e
    simp [jn_one]
  · exact jn_snoc f c _ _ (by
      intro e
      have := congrArg List.length e
      rw [List.length_take, List.length_nil] at this
      omega)
def I64s (l : List Int) : Prop := ∀ x ∈ l, -9223372036854775808 ≤ x ∧ x ≤ 9223372036854775807
theorem itoa_len {n : Int} (h : -9223372036854775808 ≤ n ∧ n ≤ 9223372036854775807) : (Lib.itoa n).length ≤ 21 := Lib.itoa_length_le n h.1 h.2
theorem jn_ints (c : UInt8) {l : List Int} (h : I64s l) (i : Nat) : (jn Lib.itoa c (l.take i)).length ≤ l.length * 22 := by
  have h1 := jn_len Lib.itoa c 21 (l.take i) (fun x hx => itoa_len (h x (List.mem_of_mem_take hx)))
  have h2 : (l.take i).length * (21 + 1) ≤ l.length * 22 := Nat.mul_le_mul_right _ (by rw [List.length_take]; omega)
  omega
end Go.Proofs.YtgfpbiaocokdeaaDoor.P
/- Numbers in decimal with commas between them, as the reference writes them. -/
namespace Go.Proofs.YtgfpbiaocokdeaaDoor.P
open Go.RowKit Go.Proofs.YtgfpbiaocokdeaaDoor.P Go.Proofs.YtgfpbiaocokdeaaDoorW.PrintWords Go.Proofs.YtgfpbiaocokdeaaDoorW.PrintLast Go.Proofs.YtgfpbiaocokdeaaDoorW.PrintMore
set_option linter.unusedVariables false
set_option linter.unusedSimpArgs false
theorem specComma_l0 (l : List Int) (hl : l.length ≤ 1048576) (hw : I64s l) : ∀ (d k i : Nat), i + d = l.length → d + 31 < k → spec_l06Comma.l0 k l (tx (jn Lib.itoa 44 (l.take i))) i = some (tx (jn Lib.itoa 44 l)) := by
  intro d
  induction d with
  | zero =>
    intro k i hi hk
    obtain ⟨k, rfl⟩ : ∃ m, k = m + 1 := ⟨k - 1, by omega⟩
    simp only [spec_l06Comma.l0]
    rw [if_neg (by omega), List.take_of_length_le (by omega)]
  | succ d ih =>
    intro k i hi hk
    obtain ⟨k, rfl⟩ : ∃ m, k = m + 1 := ⟨k - 1, by omega⟩
    have hlt : i < l.length := by omega
    have hr := hw _ (List.getElem_mem hlt)
    have h1 := jn_ints 44 hw i
    have h2 := itoa_len hr
    have hz := ih k (i + 1) (by omega) (by omega)
    rw [jn_take Lib.itoa 44 l i hlt] at hz
    simp only [spec_l06Comma.l0]
    rw [if_pos (by omega), rd_at l i hlt]
    by_cases h0 : i = 0
    · rw [if_pos h0] at hz
      rw [if_neg (by omega), if_pos (by omega), specDec_is k _ hr (by omega), bind_some_, w64s i (by omega)]
      unfold dd
      rw [tx_size, tx_size, if_pos (by omega), tx_app]
      subst h0
      exact hz
    · rw [if_neg h0] at hz
      rw [if_pos (by omega), tx_size, if_pos (by omega), if_pos (by omega), specDec_is k _ hr (by omega), bind_some_, w64s i (by omega), lit1, tx_app]
      unfold dd
      rw [tx_size, tx_size, if_pos (by rw [List.length_append, List.length_singleton]; omega), tx_app]
      exact hz
theorem specComma_is (k : Nat) (l : List Int) (hl : l.length ≤ 1048576) (hw : I64s l) (hk : l.length + 31 < k) : spec_l06Comma.f k l = some (tx (jn Lib.itoa 44 l)) := by
  unfold spec_l06Comma.f
  exact specComma_l0 l hl hw l.length k 0 (by omega) hk

end Go.Proofs.YtgfpbiaocokdeaaDoor.P
/- Numbers in decimal with a byte between them, as the program writes them. -/
namespace Go.Proofs.YtgfpbiaocokdeaaDoor.P
open Go.RowKit Go.Proofs.YtgfpbiaocokdeaaDoor.P Go.Proofs.YtgfpbiaocokdeaaDoorW.PrintWords Go.Proofs.YtgfpbiaocokdeaaDoorW.PrintLast Go.Proofs.YtgfpbiaocokdeaaDoorW.PrintMore
set_option linter.unusedVariables false
set_option linter.unusedSimpArgs false
end Go.Proofs.YtgfpbiaocokdeaaDoor.P
/- A number lies in a range, as the program asks it. -/
namespace Go.Proofs.YtgfpbiaocokdeaaDoor.P
open Go.RowKit Go.Proofs.YtgfpbiaocokdeaaDoor.P Go.Proofs.YtgfpbiaocokdeaaDoorW.PrintWords Go.Proofs.YtgfpbiaocokdeaaDoorW.PrintLast Go.Proofs.YtgfpbiaocokdeaaDoorW.PrintMore
set_option linter.unusedVariables false
set_option linter.unusedSimpArgs false
theorem within_is (a b c : Int) : impl_within.f a b c = some (decide (b ≤ a ∧ a ≤ c)) := by
  unfold impl_within.f
  by_cases h : b ≤ a <;> simp [h]

end Go.Proofs.YtgfpbiaocokdeaaDoor.P
/- What the program asks of a ground. -/
namespace Go.Proofs.YtgfpbiaocokdeaaDoor.P
open Go.RowKit Go.Proofs.YtgfpbiaocokdeaaDoor.P Go.Proofs.YtgfpbiaocokdeaaDoorW.PrintWords Go.Proofs.YtgfpbiaocokdeaaDoorW.PrintLast Go.Proofs.YtgfpbiaocokdeaaDoorW.PrintMore
set_option linter.unusedVariables false
set_option linter.unusedSimpArgs false
theorem implHole_l0 (l : List Int) (a : Int) (hb : l.length ≤ 1048576) : ∀ (d k i : Nat), i + d = l.length → 1 ≤ i → d < k → impl_isHole.l0 k l.length i a l = some (upTo (dnOk l) d i) := by
  intro d
  induction d with
  | zero =>
    intro k i hi h1 hk
    obtain ⟨k, rfl⟩ : ∃ m, k = m + 1 := ⟨k - 1, by omega⟩
    simp only [impl_isHole.l0]
    rw [if_neg (by omega)]
    rfl
  | succ d ih =>
    intro k i hi h1 hk
    obtain ⟨k, rfl⟩ : ∃ m, k = m + 1 := ⟨k - 1, by omega⟩
    have e : wrap64 ((i : Int) - 1) = ((i - 1 : Nat) : Int) := by rw [w64 _ (by omega) (by omega)]; omega
    simp only [impl_isHole.l0]
    rw [if_pos (by omega), if_pos (by omega), if_pos (by omega), e, if_pos (by omega), if_pos (by omega), w64s i (by omega), ih k (i + 1) (by omega) (by omega) (by omega)]
    simp only [upTo, dnOk]
    rw [decide_eq_false (show ¬ i = 0 by omega), Bool.false_or]
    by_cases c : rd l (i : Int) > rd l ((i - 1 : Nat) : Int)
    · rw [if_pos c, decide_eq_false (show ¬ rd l (i : Int) ≤ rd l ((i - 1 : Nat) : Int) by omega)]
      rfl
    · rw [if_neg c, decide_eq_true (show rd l (i : Int) ≤ rd l ((i - 1 : Nat) : Int) by omega)]
      rfl
theorem implHole_is (k : Nat) (r n : Int) (l : List Int) (hb : l.length ≤ 1048576) (hk : l.length + 3 < k) : impl_isHole.f k r l n = some (decide (0 ≤ r ∧ r ≤ 60) && topsOk n l) := by
  obtain ⟨k, rfl⟩ : ∃ m, k = m + 1 := ⟨k - 1, by omega⟩
  unfold impl_isHole.f topsOk impl_areWithin.f
  rw [within_is, bind_some_, bind_some_]
  simp only [impl_isHole.j0]
  by_cases h1 : 0 ≤ r ∧ r ≤ 60
  · rw [if_pos (decide_eq_true h1), decide_eq_true h1]
    by_cases h2 : (l.length : Int) = n
    · rw [if_pos h2, decide_eq_true h2]
      cases h3 : impl_areWithin.all (-100000) 100000 l with
      | true =>
        rw [if_neg (by simp)]
        subst h2
        rcases Nat.eq_zero_or_pos l.length with h0 | h0
        · obtain ⟨k, rfl⟩ : ∃ m, k = m + 1 := ⟨k - 1, by omega⟩
          simp only [impl_isHole.l0]
          rw [if_neg (by omega), h0]
          rfl
        · have h4 := implHole_l0 l r hb (l.length - 1) k 1 (by omega) (by omega) (by omega)
          have h5 : upTo (dnOk l) l.length 0 = upTo (dnOk l) (l.length - 1) 1 := by
            obtain ⟨m, hm⟩ : ∃ m, l.length = m + 1 := ⟨l.length - 1, by omega⟩
            rw [hm]
            simp [upTo, dnOk]
          rw [h5]
          simp only [Bool.true_and]
          exact h4
      | false => simp
    · rw [if_neg h2, decide_eq_false h2]
      simp
  · rw [if_neg (by simpa using h1), decide_eq_false h1]
    simp
theorem implGround_l0 (ds : List Int) (hs : List S49) (hp : shortH hs) : ∀ (d k i : Nat), i + d = hs.length → d + 1048580 < k → impl_ValidGround.l0 k hs hs.length i ds hs = some (upTo (holeOk ds.length hs) d i) := by
  intro d
  have hb := hp.1
  induction d with
  | zero =>
    intro k i hi hk
    obtain ⟨k, rfl⟩ : ∃ m, k = m + 1 := ⟨k - 1, by omega⟩
    simp only [impl_ValidGround.l0]
    rw [if_neg (by omega)]
    rfl
  | succ d ih =>
    intro k i hi hk
    obtain ⟨k, rfl⟩ : ∃ m, k = m + 1 := ⟨k - 1, by omega⟩
    have h1 := shortH_at hp i (by omega)
    have hz := ih k (i + 1) (by omega) (by omega)
    simp only [impl_ValidGround.l0]
    rw [if_pos (by omega), if_pos (by omega), if_pos (by omega), implHole_is k _ _ _ h1 (by omega), bind_some_, w64s i (by omega), hz]
    simp only [upTo, holeOk]
    by_cases h : i = 0
    · rw [if_neg (show ¬ (i : Int) > 0 by omega), decide_eq_true h, ite_tt]
      simp [Bool.and_assoc]
    · have e : wrap64 ((i : Int) - 1) = ((i - 1 : Nat) : Int) := by rw [w64 _ (by omega) (by omega)]; omega
      rw [if_pos (show (i : Int) > 0 by omega), e, if_pos (show (0 : Int) ≤ ((i - 1 : Nat) : Int) by omega), if_pos (show ((i - 1 : Nat) : Int) < (hs.length : Int) by omega), ite_ff, not_ge_dec, ite_tt, decide_eq_false h, Bool.false_or]
      simp only [Bool.and_assoc]
theorem implGround_is (k : Nat) (ds : List Int) (hs : List S49) (hp : shortH hs) (hk : 3000000 < k) : impl_ValidGround.f k ds hs = some (grOk ds hs) := by
  have hb := hp.1
  obtain ⟨k, rfl⟩ : ∃ m, k = m + 1 := ⟨k - 1, by omega⟩
  have h0 := implGround_l0 ds hs hp hs.length k 0 (by omega) (by omega)
  unfold impl_ValidGround.f grOk impl_areWithin.f
  rw [within_is, bind_some_, bind_some_, within_is, bind_some_]
  simp only [impl_ValidGround.j0]
  rw [show ((0 : Nat) : Int) = 0 from rfl] at h0
  rw [h0]
  generalize upTo (holeOk (ds.length : Int) hs) hs.length 0 = b1
  generalize impl_areWithin.all 1 3000 ds = b2
  generalize decide (1 ≤ (ds.length : Int) ∧ (ds.length : Int) ≤ 4) = b3
  generalize decide (1 ≤ (hs.length : Int) ∧ (hs.length : Int) ≤ 6) = b4
  cases b1 <;> cases b2 <;> cases b3 <;> cases b4 <;> rfl

end Go.Proofs.YtgfpbiaocokdeaaDoor.P
/- A number lies in a range, as the reference asks it. -/
namespace Go.Proofs.YtgfpbiaocokdeaaDoor.P
open Go.RowKit Go.Proofs.YtgfpbiaocokdeaaDoor.P Go.Proofs.YtgfpbiaocokdeaaDoorW.PrintWords Go.Proofs.YtgfpbiaocokdeaaDoorW.PrintLast Go.Proofs.YtgfpbiaocokdeaaDoorW.PrintMore
set_option linter.unusedVariables false
set_option linter.unusedSimpArgs false
theorem in_is (a b c : Int) : spec_l00In.f a b c = some (decide (b ≤ a ∧ a ≤ c)) := by
  unfold spec_l00In.f
  by_cases h : b ≤ a <;> simp [h]

end Go.Proofs.YtgfpbiaocokdeaaDoor.P
/- What the reference asks of a ground. -/
namespace Go.Proofs.YtgfpbiaocokdeaaDoor.P
open Go.RowKit Go.Proofs.YtgfpbiaocokdeaaDoor.P Go.Proofs.YtgfpbiaocokdeaaDoorW.PrintWords Go.Proofs.YtgfpbiaocokdeaaDoorW.PrintLast Go.Proofs.YtgfpbiaocokdeaaDoorW.PrintMore
set_option linter.unusedVariables false
set_option linter.unusedSimpArgs false
theorem specTops_l0 (l : List Int) (n : Int) (hb : l.length ≤ 1048576) : ∀ (d k i : Nat), i + d = l.length → d < k → spec_l06Tops.l0 k l n i = some (upTo (fun j => decide (-100000 ≤ rd l (j : Int) ∧ rd l (j : Int) ≤ 100000) && dnOk l j) d i && decide ((l.length : Int) = n)) := by
  intro d
  induction d with
  | zero =>
    intro k i hi hk
    obtain ⟨k, rfl⟩ : ∃ m, k = m + 1 := ⟨k - 1, by omega⟩
    simp only [spec_l06Tops.l0]
    rw [if_neg (by omega)]
    by_cases h : (l.length : Int) = n <;> simp [upTo, h]
  | succ d ih =>
    intro k i hi hk
    obtain ⟨k, rfl⟩ : ∃ m, k = m + 1 := ⟨k - 1, by omega⟩
    have hz := ih k (i + 1) (by omega) (by omega)
    simp only [spec_l06Tops.l0, in_is, bind_some_]
    rw [if_pos (by omega), if_pos (by omega), w64s i (by omega), hz]
    simp only [upTo, dnOk]
    by_cases h : i = 0
    · rw [if_neg (show ¬ (i : Int) > 0 by omega), decide_eq_true h, ite_tt]
      simp [Bool.and_assoc]
    · have e : wrap64 ((i : Int) - 1) = ((i - 1 : Nat) : Int) := by rw [w64 _ (by omega) (by omega)]; omega
      have e2 : (!decide (rd l ((i - 1 : Nat) : Int) < rd l (i : Int))) = decide (rd l (i : Int) ≤ rd l ((i - 1 : Nat) : Int)) := by
        by_cases c : rd l ((i - 1 : Nat) : Int) < rd l (i : Int)
        · rw [decide_eq_true c, decide_eq_false (show ¬ rd l (i : Int) ≤ rd l ((i - 1 : Nat) : Int) by omega)]
          rfl
        · rw [decide_eq_false c, decide_eq_true (show rd l (i : Int) ≤ rd l ((i - 1 : Nat) : Int) by omega)]
          rfl
      rw [if_pos (show (i : Int) > 0 by omega), e, if_pos (show (0 : Int) ≤ ((i - 1 : Nat) : Int) by omega), if_pos (show ((i - 1 : Nat) : Int) < (l.length : Int) by omega), ite_ff, e2, ite_tt, decide_eq_false h, Bool.false_or]
      simp only [Bool.and_assoc]
theorem specTops_is (k : Nat) (l : List Int) (n : Int) (hb : l.length ≤ 1048576) (hk : l.length < k) : spec_l06Tops.f k l n = some (topsOk n l) := by
  unfold spec_l06Tops.f topsOk
  have h := specTops_l0 l n hb l.length k 0 (by omega) hk
  rw [show ((0 : Nat) : Int) = 0 from rfl] at h
  rw [h, upTo_and, all_upTo]
  congr 1
  ac_rfl
theorem specGround_l1 (ds : List Int) (hs : List S49) (hp : shortH hs) : ∀ (d k i : Nat), i + d = hs.length → d + 1048580 < k → spec_l06Is.l1 k i ds hs = some (upTo (holeOk ds.length hs) d i) := by
  intro d
  have hb := hp.1
  induction d with
  | zero =>
    intro k i hi hk
    obtain ⟨k, rfl⟩ : ∃ m, k = m + 1 := ⟨k - 1, by omega⟩
    simp only [spec_l06Is.l1]
    rw [if_neg (by omega)]
    rfl
  | succ d ih =>
    intro k i hi hk
    obtain ⟨k, rfl⟩ : ∃ m, k = m + 1 := ⟨k - 1, by omega⟩
    have h1 := shortH_at hp i (by omega)
    have hz := ih k (i + 1) (by omega) (by omega)
    simp only [spec_l06Is.l1, in_is, bind_some_]
    rw [if_pos (by omega), if_pos (by omega), specTops_is k _ _ h1 (by omega), bind_some_, w64s i (by omega), hz, ite_tt]
    simp only [upTo, holeOk]
    by_cases h : i = 0
    · rw [if_neg (show ¬ (i : Int) > 0 by omega), decide_eq_true h, ite_tt]
      simp [Bool.and_assoc]
    · have e : wrap64 ((i : Int) - 1) = ((i - 1 : Nat) : Int) := by rw [w64 _ (by omega) (by omega)]; omega
      rw [if_pos (show (i : Int) > 0 by omega), e, if_pos (show (0 : Int) ≤ ((i - 1 : Nat) : Int) by omega), if_pos (show ((i - 1 : Nat) : Int) < (hs.length : Int) by omega), ite_ff, not_ge_dec, ite_tt, decide_eq_false h, Bool.false_or]
      congr 1
      ac_rfl
theorem specGround_l0 (ds : List Int) (hs : List S49) (hp : shortH hs) (hd : ds.length ≤ 1048576) : ∀ (d k i : Nat), i + d = ds.length → d + 2200000 < k → spec_l06Is.l0 k i ds hs = some (upTo (fun j => decide (1 ≤ rd ds (j : Int) ∧ rd ds (j : Int) ≤ 3000)) d i && upTo (holeOk ds.length hs) hs.length 0) := by
  intro d
  have hb := hp.1
  induction d with
  | zero =>
    intro k i hi hk
    obtain ⟨k, rfl⟩ : ∃ m, k = m + 1 := ⟨k - 1, by omega⟩
    have h1 := specGround_l1 ds hs hp hs.length k 0 (by omega) (by omega)
    simp only [spec_l06Is.l0]
    rw [if_neg (by omega)]
    simpa [upTo] using h1
  | succ d ih =>
    intro k i hi hk
    obtain ⟨k, rfl⟩ : ∃ m, k = m + 1 := ⟨k - 1, by omega⟩
    have hz := ih k (i + 1) (by omega) (by omega)
    simp only [spec_l06Is.l0, in_is, bind_some_]
    rw [if_pos (by omega), if_pos (by omega), w64s i (by omega), hz, ite_tt]
    simp only [upTo, Bool.and_assoc]
theorem specGround_is (k : Nat) (ds : List Int) (hs : List S49) (hd : ds.length ≤ 1048576) (hp : shortH hs) (hk : 5000000 < k) : spec_l06Is.f k ds hs = some (grOk ds hs) := by
  have hb := hp.1
  obtain ⟨k, rfl⟩ : ∃ m, k = m + 1 := ⟨k - 1, by omega⟩
  have h0 := specGround_l0 ds hs hp hd ds.length k 0 (by omega) (by omega)
  unfold spec_l06Is.f grOk
  rw [in_is, bind_some_, in_is, bind_some_, all_upTo]
  simp only [spec_l06Is.j0]
  rw [show ((0 : Nat) : Int) = 0 from rfl] at h0
  rw [h0]
  generalize upTo (holeOk (ds.length : Int) hs) hs.length 0 = b1
  generalize upTo (fun j => decide (1 ≤ rd ds (j : Int) ∧ rd ds (j : Int) ≤ 3000)) ds.length 0 = b2
  generalize decide (1 ≤ (ds.length : Int) ∧ (ds.length : Int) ≤ 4) = b3
  generalize decide (1 ≤ (hs.length : Int) ∧ (hs.length : Int) ≤ 6) = b4
  cases b1 <;> cases b2 <;> cases b3 <;> cases b4 <;> rfl

end Go.Proofs.YtgfpbiaocokdeaaDoor.P
namespace Go.Proofs.YtgfpbiaocokdeaaDoor.P
open Go.RowKit Go.Proofs.YtgfpbiaocokdeaaDoorW.PrintWords Go.Proofs.YtgfpbiaocokdeaaDoorW.PrintLast Go.Proofs.YtgfpbiaocokdeaaDoorW.PrintMore
attribute [local go_sem] max2_int min2_int max_two min_two max_three min_three max_four min_four   -- for this text's walks alone
set_option linter.unusedVariables false
set_option linter.unusedSimpArgs false

end Go.Proofs.YtgfpbiaocokdeaaDoor.P
/- The text of a ground, as both sides write it. -/
namespace Go.Proofs.YtgfpbiaocokdeaaDoor.P
open Go.RowKit Go.Proofs.YtgfpbiaocokdeaaDoor.P Go.Proofs.YtgfpbiaocokdeaaDoorW.PrintWords Go.Proofs.YtgfpbiaocokdeaaDoorW.PrintLast Go.Proofs.YtgfpbiaocokdeaaDoorW.PrintMore
set_option linter.unusedVariables false
set_option linter.unusedSimpArgs false
def holeT (h : S49) : List UInt8 := (([124] ++ Lib.itoa h.f0) ++ [58]) ++ jn Lib.itoa 44 h.f1
def holesT (hs : List S49) : List UInt8 := (hs.map holeT).flatten
def groundT (ds : List Int) (hs : List S49) : List UInt8 := jn Lib.itoa 44 ds ++ holesT hs
def H64 (hs : List S49) : Prop := ∀ t ∈ hs, (-9223372036854775808 ≤ t.f0 ∧ t.f0 ≤ 9223372036854775807) ∧ t.f1.length ≤ 1048576 ∧ I64s t.f1
theorem holeT_len {t : S49} (h : (-9223372036854775808 ≤ t.f0 ∧ t.f0 ≤ 9223372036854775807) ∧ t.f1.length ≤ 1048576 ∧ I64s t.f1) : (holeT t).length ≤ 23100000 ∧ (jn Lib.itoa 44 t.f1).length ≤ 23068672 := by
  have h1 := itoa_len h.1
  have h2 := jn_ints 44 h.2.2 t.f1.length
  rw [List.take_of_length_le (Nat.le_refl _)] at h2
  have h3 := h.2.1
  unfold holeT
  simp only [List.length_append, List.length_singleton]
  omega
theorem holes_len {hs : List S49} (h : H64 hs) (i : Nat) : (holesT (hs.take i)).length ≤ hs.length * 23100000 := by
  have h1 := flat_len holeT 23100000 (hs.take i) (fun x hx => (holeT_len (h x (List.mem_of_mem_take hx))).1)
  have h2 : (hs.take i).length * 23100000 ≤ hs.length * 23100000 := Nat.mul_le_mul_right _ (by rw [List.length_take]; omega)
  exact Nat.le_trans h1 h2
theorem holes_snoc (hs : List S49) (i : Nat) (h : i < hs.length) : holesT (hs.take (i + 1)) = holesT (hs.take i) ++ holeT hs[i] := by
  unfold holesT
  rw [List.take_add_one, List.getElem?_eq_getElem h, List.map_append, List.flatten_append]
  simp
theorem specGroundT_l0 (ds : List Int) (z : List UInt8) (hz : z.length ≤ 100000000) (hs : List S49) (hp : hs.length ≤ 1048576) (h : H64 hs) (F : Nat) (hF : 1048640 ≤ F) : ∀ (d k i : Nat), i + d = hs.length → d + F < k → spec_l06Text.l0 k (tx (z ++ holesT (hs.take i))) i ds hs = some (tx (z ++ holesT hs)) := by
  intro d
  induction d with
  | zero =>
    intro k i hi hk
    obtain ⟨k, rfl⟩ : ∃ m, k = m + 1 := ⟨k - 1, by omega⟩
    simp only [spec_l06Text.l0]
    rw [if_neg (by omega), List.take_of_length_le (by omega)]
  | succ d ih =>
    intro k i hi hk
    obtain ⟨k, rfl⟩ : ∃ m, k = m + 1 := ⟨k - 1, by omega⟩
    have hlt : i < hs.length := by omega
    have hr := h _ (List.getElem_mem hlt)
    have a1 := itoa_len hr.1
    have a2 := (holeT_len hr).2
    have a3 := hr.2.1
    have a4 := holes_len h i
    have hn := ih k (i + 1) (by omega) (by omega)
    rw [holes_snoc hs i hlt, ← List.append_assoc] at hn
    simp only [spec_l06Text.l0]
    rw [if_pos (by omega), if_pos (by omega), rdHole_at hs i hlt, specDec_is k _ hr.1 (by omega), bind_some_]
    unfold dd
    rw [tx_size, if_pos (by omega), lit1, tx_app, tx_size, if_pos (by simp only [List.length_append, List.length_singleton]; omega), specComma_is k _ (by omega) hr.2.2 (by omega), bind_some_, lit1, tx_app, tx_size, tx_size, if_pos (by simp only [List.length_append, List.length_singleton]; omega), tx_app, tx_size, tx_size, if_pos (by simp only [List.length_append, List.length_singleton]; omega), w64s i (by omega), tx_app]
    exact hn
end Go.Proofs.YtgfpbiaocokdeaaDoor.P
/- A text in the parts between the places of a byte. -/
namespace Go.Proofs.YtgfpbiaocokdeaaDoor.P
open Go.RowKit Go.Proofs.YtgfpbiaocokdeaaDoor.P Go.Proofs.YtgfpbiaocokdeaaDoorW.PrintWords Go.Proofs.YtgfpbiaocokdeaaDoorW.PrintLast Go.Proofs.YtgfpbiaocokdeaaDoorW.PrintMore
set_option linter.unusedVariables false
set_option linter.unusedSimpArgs false
def splitL (c : UInt8) : List UInt8 → List (List UInt8)
  | [] => [[]]
  | b :: l => if b = c then [] :: splitL c l else match splitL c l with
    | [] => [[b]]
    | p :: ps => (b :: p) :: ps
theorem splitL_ne (c : UInt8) : ∀ s, splitL c s ≠ []
  | [] => by simp [splitL]
  | b :: l => by
    simp only [splitL]
    split
    · simp
    · split <;> simp
theorem splitL_one (c : UInt8) : ∀ p : List UInt8, c ∉ p → splitL c p = [p]
  | [], _ => rfl
  | b :: p, h => by
    simp only [splitL]
    rw [if_neg (fun e => h (by simp [e])), splitL_one c p (fun e => h (by simp [e]))]
theorem splitL_app (c : UInt8) (r : List UInt8) : ∀ p : List UInt8, c ∉ p → splitL c (p ++ c :: r) = p :: splitL c r
  | [], _ => by
    rw [List.nil_append]
    simp only [splitL]
    rw [if_pos trivial]
  | b :: p, h => by
    rw [List.cons_append]
    simp only [splitL]
    rw [if_neg (fun e => h (by simp [e])), splitL_app c r p (fun e => h (by simp [e]))]
theorem splitL_cons (c : UInt8) (s : List UInt8) : ∃ p ps, splitL c s = p :: ps := by
  cases h : splitL c s with
  | nil => exact absurd h (splitL_ne c s)
  | cons p ps => exact ⟨p, ps, rfl⟩
theorem splitL_join (c : UInt8) : ∀ s : List UInt8, jn (fun z => z) c (splitL c s) = s
  | [] => by simp [splitL, jn_one]
  | b :: l => by
    have ih := splitL_join c l
    obtain ⟨p, ps, e⟩ := splitL_cons c l
    simp only [splitL]
    rw [e] at ih ⊢
    split
    · rename_i h
      rw [jn_cons, List.map_cons, List.flatten_cons]
      rw [jn_cons] at ih
      rw [List.nil_append, List.cons_append, ih, h]
    · dsimp only
      rw [jn_cons] at ih ⊢
      rw [List.cons_append, ih]
theorem splitL_free (c : UInt8) : ∀ s : List UInt8, ∀ p ∈ splitL c s, c ∉ p
  | [], p, h => by
    rw [show splitL c [] = [[]] from rfl] at h
    rw [List.mem_singleton.mp h]
    simp
  | b :: l, p, h => by
    have ih := splitL_free c l
    obtain ⟨q, qs, e⟩ := splitL_cons c l
    simp only [splitL] at h
    rw [e] at ih h
    split at h
    · rcases List.mem_cons.mp h with e2 | e2
      · rw [e2]; simp
      · exact ih p e2
    · rename_i hb
      dsimp only at h
      rcases List.mem_cons.mp h with e2 | e2
      · rw [e2]
        intro hc
        rcases List.mem_cons.mp hc with e3 | e3
        · exact hb e3.symm
        · exact ih q (by simp) e3
      · exact ih p (by simp [e2])
theorem splitL_of (c : UInt8) : ∀ ps : List (List UInt8), ps ≠ [] → (∀ p ∈ ps, c ∉ p) → splitL c (jn (fun z => z) c ps) = ps
  | [], h, _ => absurd rfl h
  | [p], _, h => by rw [jn_one]; exact splitL_one c p (h p (by simp))
  | p :: q :: ps, _, h => by
    have ih := splitL_of c (q :: ps) (by simp) (fun z hz => h z (List.mem_cons_of_mem _ hz))
    rw [jn_cons, List.map_cons, List.flatten_cons, List.cons_append, splitL_app c _ p (h p (by simp))]
    rw [jn_cons] at ih
    rw [ih]
theorem splitL_len (c : UInt8) : ∀ s : List UInt8, (splitL c s).length ≤ s.length + 1 ∧ ∀ p ∈ splitL c s, p.length ≤ s.length
  | [] => by simp [splitL]
  | b :: l => by
    have ih := splitL_len c l
    obtain ⟨q, qs, e⟩ := splitL_cons c l
    simp only [splitL]
    rw [e] at ih ⊢
    simp only [List.length_cons] at ih ⊢
    have hq := ih.2 q (by simp)
    split
    · refine ⟨by simp only [List.length_cons]; omega, fun p hp => ?_⟩
      rcases List.mem_cons.mp hp with e2 | e2
      · rw [e2]; simp
      · have := ih.2 p e2; omega
    · refine ⟨by simp only [List.length_cons]; omega, fun p hp => ?_⟩
      rcases List.mem_cons.mp hp with e2 | e2
      · rw [e2, List.length_cons]; omega
      · have := ih.2 p (by simp [e2]); omega
theorem mem_split (c : UInt8) : ∀ s : List UInt8, c ∈ s → ∃ p r, s = p ++ c :: r ∧ c ∉ p
  | [], h => by simp at h
  | b :: l, h => by
    by_cases e : b = c
    · exact ⟨[], l, by rw [e]; rfl, by simp⟩
    · obtain ⟨p, r, e1, e2⟩ := mem_split c l (by rcases List.mem_cons.mp h with z | z; exact absurd z.symm e; exact z)
      refine ⟨b :: p, r, by rw [e1]; rfl, fun hc => ?_⟩
      rcases List.mem_cons.mp hc with z | z
      · exact e z.symm
      · exact e2 z
theorem idx_none (c : UInt8) : ∀ s : List UInt8, c ∉ s → Lib.index s [c] = -1
  | [], _ => rfl
  | b :: l, h => by
    have hb : ¬ c = b := fun e => h (by simp [e])
    have h2 : [c].isPrefixOf (b :: l) = false := by
      simp only [List.isPrefixOf]
      rw [beq_eq_false_iff_ne.mpr hb, Bool.false_and]
    unfold Lib.index
    rw [h2, idx_none c l (fun e => h (by simp [e])), if_neg (by simp), if_pos (by simp)]
theorem splitK_is (c : UInt8) : ∀ (n : Nat) (s : List UInt8), s.length ≤ n → Lib.splitK [c] 0 (Lib.count s [c]) s = splitL c s := by
  intro n
  induction n with
  | zero =>
    intro s hs
    have : s = [] := List.length_eq_zero_iff.mp (by omega)
    subst this
    rw [Lib.count_miss (idx_none c [] (by simp))]
    rfl
  | succ n ih =>
    intro s hs
    by_cases h : c ∈ s
    · obtain ⟨p, r, e, hp⟩ := mem_split c s h
      have hi := idx_app c [] r p hp
      rw [show p ++ ((c :: []) ++ r) = s by rw [e]; rfl] at hi
      have hd : s.drop (p.length + [c].length) = r := by
        rw [e, List.length_singleton, show p ++ c :: r = (p ++ [c]) ++ r by simp, show p.length + 1 = (p ++ [c]).length by simp, List.drop_left]
      have hl : r.length ≤ n := by
        rw [e] at hs
        simp only [List.length_append, List.length_cons] at hs
        omega
      rw [Lib.count_hit (by simp) hi, hd, Nat.add_comm 1]
      unfold Lib.splitK
      rw [hi, if_neg (by simp), Int.toNat_natCast, hd, ih r hl, e, splitL_app c r p hp]
      simp
    · rw [Lib.count_miss (idx_none c s h), splitL_one c s h]
      rfl

end Go.Proofs.YtgfpbiaocokdeaaDoor.P
/- The library's split, as a list of texts. -/
namespace Go.Proofs.YtgfpbiaocokdeaaDoor.P
open Go.RowKit Go.Proofs.YtgfpbiaocokdeaaDoor.P Go.Proofs.YtgfpbiaocokdeaaDoorW.PrintWords Go.Proofs.YtgfpbiaocokdeaaDoorW.PrintLast Go.Proofs.YtgfpbiaocokdeaaDoorW.PrintMore
set_option linter.unusedVariables false
set_option linter.unusedSimpArgs false
theorem split_is (c : UInt8) (s : List UInt8) (hs : s.length < 4294967281) : strings_Split.f (tx s) (tx [c]) = some ((splitL c s).map tx) := by
  unfold strings_Split.f
  rw [tx_size, tx_size, if_pos ⟨hs, by simp⟩]
  congr 1
  have h := Lib.splitB_data (tx [c]) 0 (Lib.countB (tx s) (tx [c])) (tx s)
  rw [tx_data, tx_data, show Lib.countB (tx s) (tx [c]) = Lib.count (tx s).data.toList (tx [c]).data.toList from rfl, tx_data, tx_data, splitK_is c s.length s (Nat.le_refl _)] at h
  rw [← h, List.map_map, show Lib.countB (tx s) (tx [c]) = Lib.count (tx s).data.toList (tx [c]).data.toList from rfl, tx_data, tx_data]
  exact ((List.map_congr_left (fun z _ => tx_of z)).trans (List.map_id _)).symm

end Go.Proofs.YtgfpbiaocokdeaaDoor.P
/- The number with a text: what the library's parse and print say together. -/
namespace Go.Proofs.YtgfpbiaocokdeaaDoor.P
open Go.RowKit Go.Proofs.YtgfpbiaocokdeaaDoor.P Go.Proofs.YtgfpbiaocokdeaaDoorW.PrintWords Go.Proofs.YtgfpbiaocokdeaaDoorW.PrintLast Go.Proofs.YtgfpbiaocokdeaaDoorW.PrintMore
set_option linter.unusedVariables false
set_option linter.unusedSimpArgs false
theorem tx_toList (l : List UInt8) : (tx l).toList = l := by
  rw [ByteArray.toList_eq]
  exact tx_data l
theorem dec_digits : ∀ (F m : Nat), m < F → ∀ c ∈ Lib.decDigits m, 48 ≤ c.toNat ∧ c.toNat ≤ 57 := by
  intro F
  induction F with
  | zero => intro m h; omega
  | succ F ih =>
    intro m hm c hc
    have hlt := Nat.mod_lt m (show 0 < 10 by decide)
    have hd : ∀ c ∈ [UInt8.ofNat (48 + m % 10)], 48 ≤ c.toNat ∧ c.toNat ≤ 57 := fun c hc => by
      rw [List.mem_singleton.mp hc, UInt8.toNat_ofNat']
      omega
    by_cases h : m < 10
    · rw [decDigits_low h] at hc
      exact hd c hc
    · rw [decDigits_more h] at hc
      rcases List.mem_append.mp hc with e | e
      · exact ih (m / 10) (by omega) c e
      · exact hd c e
theorem dec_ne (m : Nat) : Lib.decDigits m ≠ [] := by
  by_cases h : m < 10
  · rw [decDigits_low h]; simp
  · rw [decDigits_more h]; simp
theorem parse_dd : ∀ (F m : Nat), m < F → m ≤ 18446744073709551615 → ∀ r, Lib.parseUintM 18446744073709551615 0 (Lib.decDigits m ++ r) = Lib.parseUintM 18446744073709551615 m r := by
  intro F
  induction F with
  | zero => intro m h; omega
  | succ F ih =>
    intro m hm hb r
    have hlt := Nat.mod_lt m (show 0 < 10 by decide)
    have hd : (UInt8.ofNat (48 + m % 10)).toNat = 48 + m % 10 := by rw [UInt8.toNat_ofNat']; omega
    by_cases h : m < 10
    · rw [decDigits_low h, List.singleton_append]
      simp only [Lib.parseUintM]
      rw [hd, if_pos (by omega), if_neg (by omega), if_neg (by omega), show 0 * 10 + (48 + m % 10 - 48) = m by omega]
    · rw [decDigits_more h, List.append_assoc, ih (m / 10) (by omega) (by omega), List.singleton_append]
      simp only [Lib.parseUintM]
      rw [hd, if_pos (by omega), if_neg (by omega), if_neg (by omega), show m / 10 * 10 + (48 + m % 10 - 48) = m by omega]
theorem parse_mag (m : Nat) (hb : m ≤ 18446744073709551615) : Lib.parseUintB 64 (Lib.decDigits m) = .ok m := by
  unfold Lib.parseUintB
  rw [if_neg (dec_ne m), show 2 ^ 64 - 1 = 18446744073709551615 from rfl]
  have := parse_dd (m + 1) m (by omega) hb []
  rw [List.append_nil] at this
  rw [this]
  rfl
theorem parse_itoa (n : Int) (hn : -9223372036854775808 ≤ n ∧ n ≤ 9223372036854775807) : Lib.parseIntB 64 (Lib.itoa n) = .ok n := by
  unfold Lib.itoa
  by_cases h : n < 0
  · rw [if_pos h]
    unfold Lib.parseIntB
    have e45 : (45 : UInt8).toNat = 45 := rfl
    simp only [e45]
    rw [if_pos (Or.inr trivial), parse_mag _ (by omega)]
    simp only [show (2 ^ (64 - 1) : Nat) = 9223372036854775808 from rfl]
    rw [if_neg (by simp), if_neg (by omega), if_pos trivial]
    congr 1
    omega
  · rw [if_neg h]
    have hp := parse_mag n.toNat (by omega)
    cases hl : Lib.decDigits n.toNat with
    | nil => exact absurd hl (dec_ne _)
    | cons c r =>
      have hc := dec_digits (n.toNat + 1) n.toNat (by omega) c (by rw [hl]; simp)
      rw [hl] at hp
      unfold Lib.parseIntB
      dsimp only
      rw [if_neg (by omega), hp]
      simp only [show (2 ^ (64 - 1) : Nat) = 9223372036854775808 from rfl]
      rw [if_neg (by omega), if_neg (by omega), if_neg (by omega)]
      congr 1
      omega
def decOf (s : List UInt8) : Option Int := match Lib.parseIntB 64 s with
  | .ok v => if Lib.itoa v = s then some v else none
  | _ => none
theorem decOf_itoa (n : Int) (hn : -9223372036854775808 ≤ n ∧ n ≤ 9223372036854775807) : decOf (Lib.itoa n) = some n := by
  unfold decOf
  rw [parse_itoa n hn]
  simp
theorem decOf_some {s : List UInt8} {n : Int} (h : decOf s = some n) : Lib.itoa n = s ∧ -9223372036854775808 ≤ n ∧ n ≤ 9223372036854775807 := by
  unfold decOf at h
  cases hp : Lib.parseIntB 64 s with
  | ok v =>
    rw [hp] at h
    dsimp only at h
    have hb := Lib.parseIntB_bounds (B := 64) hp
    rw [show ((2 ^ (64 - 1) : Nat) : Int) = 9223372036854775808 from rfl] at hb
    split at h
    · rename_i e
      obtain rfl := Option.some.inj h
      exact ⟨e, by omega⟩
    · cases h
  | range => rw [hp] at h; cases h
  | _ => rw [hp] at h; cases h
def valIn (lo hi : Int) (s : List UInt8) : Int × Bool := match decOf s with
  | some v => if lo ≤ v ∧ v ≤ hi then (v, true) else (0, false)
  | none => (0, false)
theorem valIn_itoa {lo hi n : Int} (hn : -9223372036854775808 ≤ n ∧ n ≤ 9223372036854775807) (h : lo ≤ n ∧ n ≤ hi) : valIn lo hi (Lib.itoa n) = (n, true) := by
  unfold valIn
  rw [decOf_itoa n hn]
  dsimp only
  rw [if_pos h]
theorem valIn_true {lo hi : Int} {s : List UInt8} (h : (valIn lo hi s).2 = true) : Lib.itoa (valIn lo hi s).1 = s ∧ (-9223372036854775808 ≤ (valIn lo hi s).1 ∧ (valIn lo hi s).1 ≤ 9223372036854775807) ∧ lo ≤ (valIn lo hi s).1 ∧ (valIn lo hi s).1 ≤ hi := by
  unfold valIn at h ⊢
  cases hd : decOf s with
  | none => rw [hd] at h; cases h
  | some v =>
    rw [hd] at h
    have := decOf_some hd
    dsimp only at h ⊢
    split at h
    · rename_i hb
      rw [if_pos hb]
      exact ⟨this.1, this.2, hb⟩
    · cases h

end Go.Proofs.YtgfpbiaocokdeaaDoor.P
/- The numbers of a text, as the reference reads them, plainly. -/
namespace Go.Proofs.YtgfpbiaocokdeaaDoor.P
open Go.RowKit Go.Proofs.YtgfpbiaocokdeaaDoor.P Go.Proofs.YtgfpbiaocokdeaaDoorW.PrintWords Go.Proofs.YtgfpbiaocokdeaaDoorW.PrintLast Go.Proofs.YtgfpbiaocokdeaaDoorW.PrintMore
set_option linter.unusedVariables false
set_option linter.unusedSimpArgs false
def isDg (c : UInt8) : Bool := decide (48 ≤ c.toNat ∧ c.toNat ≤ 57)
def takeD : Nat → List UInt8 → Int → Int × List UInt8
  | 0, s, a => (a, s)
  | _ + 1, [], a => (a, [])
  | n + 1, c :: r, a => if isDg c = true then takeD n r (wrap64 (wrap64 (10 * a) + (((c.toNat : Int) - 48) % 256))) else (a, c :: r)
theorem takeD_len : ∀ (n : Nat) (s : List UInt8) (a : Int), (takeD n s a).2.length ≤ s.length
  | 0, s, a => Nat.le_refl _
  | n + 1, [], a => Nat.le_refl _
  | n + 1, c :: r, a => by
    simp only [takeD]
    split
    · have := takeD_len n r (wrap64 (wrap64 (10 * a) + (((c.toNat : Int) - 48) % 256)))
      rw [List.length_cons]
      omega
    · exact Nat.le_refl _
def tok (c : UInt8) (r : List UInt8) : Int := if isDg c = true then 1 else if c = 45 then (match r with | [] => 0 | d :: _ => if isDg d = true then -1 else 0) else 0
def nums : Nat → List UInt8 → List Int → List Int
  | 0, _, out => out
  | _ + 1, [], out => out
  | F + 1, c :: r, out => if tok c r = 1 then nums F (takeD 8 (c :: r) 0).2 (out ++ [wrap64 (1 * (takeD 8 (c :: r) 0).1)]) else if tok c r = -1 then nums F (takeD 8 r 0).2 (out ++ [wrap64 (-1 * (takeD 8 r 0).1)]) else nums F r out
theorem nums_fuel : ∀ (F G : Nat) (s : List UInt8) (out : List Int), s.length < F → s.length < G → nums F s out = nums G s out
  | 0, _, _, _, h, _ => by omega
  | _ + 1, 0, _, _, _, h => by omega
  | F + 1, G + 1, [], out, _, _ => rfl
  | F + 1, G + 1, c :: r, out, h1, h2 => by
    simp only [List.length_cons] at h1 h2
    simp only [nums]
    split
    · rename_i ht
      have hd : isDg c = true := by
        unfold tok at ht
        split at ht
        · assumption
        · split at ht
          · split at ht
            · omega
            · split at ht <;> omega
          · omega
      have e : takeD 8 (c :: r) 0 = takeD 7 r (wrap64 (wrap64 (10 * 0) + (((c.toNat : Int) - 48) % 256))) := by
        simp only [takeD]
        rw [if_pos hd]
      have := takeD_len 7 r (wrap64 (wrap64 (10 * 0) + (((c.toNat : Int) - 48) % 256)))
      rw [e]
      exact nums_fuel F G _ _ (by omega) (by omega)
    · split
      · have := takeD_len 8 r 0
        exact nums_fuel F G _ _ (by omega) (by omega)
      · exact nums_fuel F G r out (by omega) (by omega)
def numsOf (s : List UInt8) (out : List Int) : List Int := nums (s.length + 1) s out
theorem numsOf_nil (out : List Int) : numsOf [] out = out := rfl
theorem numsOf_skip (c : UInt8) (r : List UInt8) (out : List Int) (h : tok c r = 0) : numsOf (c :: r) out = numsOf r out := by
  unfold numsOf
  rw [List.length_cons]
  simp only [nums]
  rw [if_neg (by omega), if_neg (by omega)]
def stopsDg : List UInt8 → Prop
  | [] => True
  | c :: _ => isDg c = false
theorem takeD_dec : ∀ (F m : Nat), m < F → m ≤ 99999999 → ∀ (n : Nat), (Lib.decDigits m).length ≤ n → ∀ r, takeD n (Lib.decDigits m ++ r) 0 = takeD (n - (Lib.decDigits m).length) r (m : Int) := by
  intro F
  induction F with
  | zero => intro m h; omega
  | succ F ih =>
    intro m hm hb n hn r
    have hlt := Nat.mod_lt m (show 0 < 10 by decide)
    have hd : (UInt8.ofNat (48 + m % 10)).toNat = 48 + m % 10 := by rw [UInt8.toNat_ofNat']; omega
    have hg : isDg (UInt8.ofNat (48 + m % 10)) = true := by unfold isDg; exact decide_eq_true (by omega)
    by_cases h : m < 10
    · rw [decDigits_low h] at hn ⊢
      rw [List.length_singleton] at hn ⊢
      obtain ⟨n, rfl⟩ : ∃ q, n = q + 1 := ⟨n - 1, by omega⟩
      rw [List.singleton_append]
      simp only [takeD]
      rw [if_pos hg, hd, w64 (10 * 0) (by omega) (by omega), w64 _ (by omega) (by omega), show (10 * 0 + (((48 + m % 10 : Nat) : Int) - 48) % 256) = (m : Int) by omega, Nat.add_sub_cancel]
    · rw [decDigits_more h] at hn ⊢
      rw [List.length_append, List.length_singleton] at hn ⊢
      rw [List.append_assoc, ih (m / 10) (by omega) (by omega) n (by omega), List.singleton_append]
      obtain ⟨q, e⟩ : ∃ q, n - (Lib.decDigits (m / 10)).length = q + 1 := ⟨n - (Lib.decDigits (m / 10)).length - 1, by omega⟩
      rw [show n - ((Lib.decDigits (m / 10)).length + 1) = q by omega, e]
      simp only [takeD]
      rw [if_pos hg, hd, w64 (10 * ((m / 10 : Nat) : Int)) (by omega) (by omega), w64 _ (by omega) (by omega), show (10 * ((m / 10 : Nat) : Int) + (((48 + m % 10 : Nat) : Int) - 48) % 256) = (m : Int) by omega]
theorem takeD_stop (q : Nat) (r : List UInt8) (a : Int) (h : stopsDg r) : takeD q r a = (a, r) := by
  cases q with
  | zero => rfl
  | succ q =>
    cases r with
    | nil => rfl
    | cons c r =>
      simp only [takeD]
      rw [if_neg (by rw [show isDg c = false from h]; simp)]
theorem nDig8 (m : Nat) (h : m ≤ 99999999) : (Lib.decDigits m).length ≤ 8 := by
  rw [Lib.decDigits_length]
  have : ∀ (d m : Nat), m < 10 ^ (d + 1) → Lib.nDigits m ≤ d + 1 := by
    intro d
    induction d with
    | zero => intro m h; rw [Lib.nDigits_small (by simpa using h)]; omega
    | succ d ih =>
      intro m h
      by_cases c : m < 10
      · rw [Lib.nDigits_small c]; omega
      · have := ih (m / 10) (by rw [Nat.pow_succ] at h; omega)
        rw [Lib.nDigits_big c]
        omega
  exact this 7 m (by omega)
theorem numsOf_int (n : Int) (hn : -99999999 ≤ n ∧ n ≤ 99999999) (r : List UInt8) (hr : stopsDg r) (out : List Int) : numsOf (Lib.itoa n ++ r) out = numsOf r (out ++ [n]) := by
  by_cases c : n < 0
  · obtain ⟨m, e⟩ : ∃ m : Nat, n = -(m : Int) := ⟨n.natAbs, by omega⟩
    have ei : Lib.itoa n = 45 :: Lib.decDigits m := by
      unfold Lib.itoa
      rw [if_pos c, show n.natAbs = m by omega]
    have ht := takeD_dec (m + 1) m (by omega) (by omega) 8 (nDig8 m (by omega)) r
    rw [takeD_stop _ r _ hr] at ht
    have hk : tok 45 (Lib.decDigits m ++ r) = -1 := by
      unfold tok
      rw [if_neg (by decide), if_pos rfl]
      cases hq : Lib.decDigits m with
      | nil => exact absurd hq (dec_ne m)
      | cons x t =>
        have := dec_digits (m + 1) m (by omega) x (by rw [hq]; simp)
        rw [List.cons_append]
        dsimp only
        rw [if_pos (by unfold isDg; exact decide_eq_true (by omega))]
    unfold numsOf
    rw [ei, List.cons_append, List.length_cons]
    simp only [nums]
    rw [hk, if_neg (by omega), if_pos rfl, ht]
    dsimp only
    rw [show wrap64 (-1 * (m : Int)) = n by rw [w64 _ (by omega) (by omega)]; omega]
    exact nums_fuel _ _ _ _ (by rw [List.length_append]; omega) (by omega)
  · obtain ⟨m, e⟩ : ∃ m : Nat, n = (m : Int) := ⟨n.toNat, by omega⟩
    have ei : Lib.itoa n = Lib.decDigits m := by
      unfold Lib.itoa
      rw [if_neg c, show n.toNat = m by omega]
    have ht := takeD_dec (m + 1) m (by omega) (by omega) 8 (nDig8 m (by omega)) r
    rw [takeD_stop _ r _ hr] at ht
    rw [ei]
    unfold numsOf
    cases hq : Lib.decDigits m with
    | nil => exact absurd hq (dec_ne m)
    | cons x t =>
      have hx := dec_digits (m + 1) m (by omega) x (by rw [hq]; simp)
      have hk : tok x (t ++ r) = 1 := by
        unfold tok
        rw [if_pos (by unfold isDg; exact decide_eq_true (by omega))]
      rw [hq, List.cons_append] at ht
      rw [List.cons_append, List.length_cons]
      simp only [nums]
      rw [hk, if_pos rfl, ht]
      dsimp only
      rw [show wrap64 (1 * (m : Int)) = n by rw [w64 _ (by omega) (by omega)]; omega]
      exact nums_fuel _ _ _ _ (by rw [List.length_append]; omega) (by omega)
theorem tok_sep (c : UInt8) (r : List UInt8) (h1 : isDg c = false) (h2 : c ≠ 45) : tok c r = 0 := by
  unfold tok
  rw [if_neg (by rw [h1]; simp), if_neg h2]
theorem jn_two {α : Type} (f : α → List UInt8) (c : UInt8) (x y : α) (l : List α) : jn f c (x :: y :: l) = f x ++ (c :: jn f c (y :: l)) := by
  rw [jn_cons, jn_cons, List.map_cons, List.flatten_cons, List.cons_append]
theorem numsOf_jn (c : UInt8) (h1 : isDg c = false) (h2 : c ≠ 45) (r : List UInt8) (hr : stopsDg r) : ∀ (l out : List Int), (∀ v ∈ l, -99999999 ≤ v ∧ v ≤ 99999999) → numsOf (jn Lib.itoa c l ++ r) out = numsOf r (out ++ l)
  | [], out, _ => by rw [jn_nil, List.nil_append, List.append_nil]
  | [x], out, h => by rw [jn_one, numsOf_int x (h x (by simp)) r hr]
  | x :: y :: l, out, h => by
    rw [jn_two, List.append_assoc, numsOf_int x (h x (by simp)) _ (by rw [List.cons_append]; exact h1), List.cons_append, numsOf_skip c _ _ (tok_sep c _ h1 h2), numsOf_jn c h1 h2 r hr (y :: l) _ (fun v hv => h v (List.mem_cons_of_mem _ hv))]
    simp

end Go.Proofs.YtgfpbiaocokdeaaDoor.P
/- More of joined texts. -/
namespace Go.Proofs.YtgfpbiaocokdeaaDoor.P
open Go.RowKit Go.Proofs.YtgfpbiaocokdeaaDoor.P Go.Proofs.YtgfpbiaocokdeaaDoorW.PrintWords Go.Proofs.YtgfpbiaocokdeaaDoorW.PrintLast Go.Proofs.YtgfpbiaocokdeaaDoorW.PrintMore
set_option linter.unusedVariables false
set_option linter.unusedSimpArgs false
theorem jn_ge (c : UInt8) : ∀ ps : List (List UInt8), ∀ p ∈ ps, p.length + ps.length ≤ (jn (fun z => z) c ps).length + 1
  | [], p, h => by simp at h
  | [q], p, h => by rw [List.mem_singleton.mp h, jn_one]; simp
  | q :: q2 :: ps, p, h => by
    have ih := jn_ge c (q2 :: ps)
    rw [jn_two]
    simp only [List.length_append, List.length_cons] at ih ⊢
    rcases List.mem_cons.mp h with e | e
    · have := ih q2 (by simp)
      rw [e]
      omega
    · have := ih p e
      omega
theorem jn_no {α : Type} (f : α → List UInt8) (c d : UInt8) (hd : d ≠ c) : ∀ l : List α, (∀ x ∈ l, d ∉ f x) → d ∉ jn f c l
  | [], _ => by rw [jn_nil]; simp
  | [x], h => by rw [jn_one]; exact h x (by simp)
  | x :: y :: l, h => by
    rw [jn_two]
    intro hm
    rcases List.mem_append.mp hm with e | e
    · exact h x (by simp) e
    · rcases List.mem_cons.mp e with e2 | e2
      · exact hd e2
      · exact jn_no f c d hd (y :: l) (fun z hz => h z (List.mem_cons_of_mem _ hz)) e2

end Go.Proofs.YtgfpbiaocokdeaaDoor.P
/- The program's number with a text. -/
namespace Go.Proofs.YtgfpbiaocokdeaaDoor.P
open Go.RowKit Go.Proofs.YtgfpbiaocokdeaaDoor.P Go.Proofs.YtgfpbiaocokdeaaDoorW.PrintWords Go.Proofs.YtgfpbiaocokdeaaDoorW.PrintLast Go.Proofs.YtgfpbiaocokdeaaDoorW.PrintMore
set_option linter.unusedVariables false
set_option linter.unusedSimpArgs false
theorem implReadIn_is (s : List UInt8) (lo hi : Int) (hs : s.length ≤ 281474976710656) : impl_readIn.f (tx s) lo hi = some (valIn lo hi s) := by
  unfold impl_readIn.f valIn decOf
  rw [tx_size, if_pos hs, tx_data, tx_toList]
  congr 1
  cases Lib.parseIntB 64 s with
  | ok v =>
    dsimp only
    rw [show (⟨(Lib.itoa v).toArray⟩ : ByteArray) = tx (Lib.itoa v) from rfl, tx_toList]
    by_cases h : Lib.itoa v = s
    · rw [if_pos h]
      dsimp only
      by_cases h2 : lo ≤ v ∧ v ≤ hi
      · rw [if_pos ⟨h, h2⟩, if_pos h2]
      · rw [if_neg (fun z => h2 z.2), if_neg h2]
    · rw [if_neg (fun z => h z.1), if_neg h]
  | range => rfl
  | _ => rfl
theorem implReadDecimal_is (s : List UInt8) (hs : s.length ≤ 281474976710656) : impl_ReadDecimal.f (tx s) = some (valIn (-1000000000) 1000000000 s) := by
  unfold impl_ReadDecimal.f
  rw [implReadIn_is s _ _ hs, bind_some_]

end Go.Proofs.YtgfpbiaocokdeaaDoor.P
/- The numbers that stand in a text, as the program reads them. -/
namespace Go.Proofs.YtgfpbiaocokdeaaDoor.P
open Go.RowKit Go.Proofs.YtgfpbiaocokdeaaDoor.P Go.Proofs.YtgfpbiaocokdeaaDoorW.PrintWords Go.Proofs.YtgfpbiaocokdeaaDoorW.PrintLast Go.Proofs.YtgfpbiaocokdeaaDoorW.PrintMore
set_option linter.unusedVariables false
set_option linter.unusedSimpArgs false
def allGo (lo hi : Int) : List (List UInt8) → List Int → List Int × Bool
  | [], acc => (acc, true)
  | p :: ps, acc => if (valIn lo hi p).2 = true then allGo lo hi ps (acc ++ [(valIn lo hi p).1]) else ([], false)
theorem rdB_at (L : List (List UInt8)) (i : Nat) (h : i < L.length) : rdOf ByteArray.empty (L.map tx) (i : Int) = tx L[i] := by
  unfold rdOf
  rw [Int.toNat_natCast, List.getD_eq_getElem?_getD, List.getElem?_map, List.getElem?_eq_getElem h]
  rfl
theorem readAll_l0 (lo hi : Int) (L : List (List UInt8)) (hL : L.length ≤ 2000000) (hp : ∀ p ∈ L, p.length ≤ 281474976710656) : ∀ (d k i : Nat) (acc : List Int), i + d = L.length → d < k → acc.length ≤ i → impl_readAll.l0 k lo hi acc (L.map tx) (L.length : Int) i = some (allGo lo hi (L.drop i) acc) := by
  intro d
  induction d with
  | zero =>
    intro k i acc hi2 hk ha
    obtain ⟨k, rfl⟩ : ∃ m, k = m + 1 := ⟨k - 1, by omega⟩
    simp only [impl_readAll.l0]
    rw [if_neg (by omega), List.drop_of_length_le (by omega)]
    rfl
  | succ d ih =>
    intro k i acc hi2 hk ha
    obtain ⟨k, rfl⟩ : ∃ m, k = m + 1 := ⟨k - 1, by omega⟩
    have hlt : i < L.length := by omega
    simp only [impl_readAll.l0]
    rw [if_pos (by omega), if_pos (by omega), List.length_map, if_pos (by omega), rdB_at L i hlt, implReadIn_is _ lo hi (hp _ (List.getElem_mem hlt)), bind_some_, List.drop_eq_getElem_cons hlt]
    simp only [allGo]
    by_cases h : (valIn lo hi L[i]).2 = true
    · rw [if_pos h, if_pos h, if_pos (by omega), w64s i (by omega)]
      exact ih k (i + 1) _ (by omega) (by omega) (by rw [List.length_append, List.length_singleton]; omega)
    · rw [if_neg h, if_neg h]
theorem readAll_is (lo hi : Int) (c : UInt8) (s : List UInt8) (hs : s.length ≤ 1048576) (k : Nat) (hk : s.length + 10 < k) : impl_readAll.f k (tx s) (tx [c]) lo hi = some (allGo lo hi (splitL c s) []) := by
  have hl := splitL_len c s
  unfold impl_readAll.f
  rw [split_is c s (by omega), bind_some_, List.length_map]
  exact readAll_l0 lo hi (splitL c s) (by omega) (fun p hp => by have := hl.2 p hp; omega) (splitL c s).length k 0 [] (by omega) (by omega) (by simp)
theorem allGo_true (lo hi : Int) : ∀ (ps : List (List UInt8)) (acc : List Int), (allGo lo hi ps acc).2 = true → ∃ l, allGo lo hi ps acc = (acc ++ l, true) ∧ l.map Lib.itoa = ps ∧ ∀ v ∈ l, (-9223372036854775808 ≤ v ∧ v ≤ 9223372036854775807) ∧ lo ≤ v ∧ v ≤ hi
  | [], acc, _ => ⟨[], by rw [List.append_nil]; rfl, rfl, by simp⟩
  | p :: ps, acc, h => by
    simp only [allGo] at h ⊢
    by_cases hv : (valIn lo hi p).2 = true
    · rw [if_pos hv] at h ⊢
      obtain ⟨l, e1, e2, e3⟩ := allGo_true lo hi ps _ h
      have hp := valIn_true hv
      refine ⟨(valIn lo hi p).1 :: l, by rw [e1]; simp, by rw [List.map_cons, e2, hp.1], fun v hm => ?_⟩
      rcases List.mem_cons.mp hm with z | z
      · rw [z]; exact hp.2
      · exact e3 v z
    · rw [if_neg hv] at h
      cases h
theorem allGo_itoa (lo hi : Int) : ∀ (l acc : List Int), (∀ v ∈ l, (-9223372036854775808 ≤ v ∧ v ≤ 9223372036854775807) ∧ lo ≤ v ∧ v ≤ hi) → allGo lo hi (l.map Lib.itoa) acc = (acc ++ l, true)
  | [], acc, _ => by rw [List.append_nil]; rfl
  | v :: l, acc, h => by
    have hv := h v (by simp)
    rw [List.map_cons]
    simp only [allGo]
    rw [valIn_itoa hv.1 hv.2, if_pos rfl]
    dsimp only
    rw [allGo_itoa lo hi l _ (fun z hz => h z (List.mem_cons_of_mem _ hz))]
    simp
theorem jn_map (c : UInt8) (l : List Int) : jn Lib.itoa c l = jn (fun z => z) c (l.map Lib.itoa) := by
  unfold jn
  rw [List.map_map]
  rfl
theorem itoa_no (c : UInt8) (h1 : c.toNat < 48 ∨ 57 < c.toNat) (h2 : c ≠ 45) (n : Int) : c ∉ Lib.itoa n := fun hm => by
  unfold Lib.itoa at hm
  split at hm
  · rcases List.mem_cons.mp hm with e | e
    · exact h2 e
    · have := dec_digits (n.natAbs + 1) n.natAbs (by omega) c e
      omega
  · have := dec_digits (n.toNat + 1) n.toNat (by omega) c hm
    omega
theorem splitL_ints (c : UInt8) (h1 : c.toNat < 48 ∨ 57 < c.toNat) (h2 : c ≠ 45) (l : List Int) (hl : l ≠ []) : splitL c (jn Lib.itoa c l) = l.map Lib.itoa := by
  rw [jn_map]
  refine splitL_of c _ (by simpa using hl) (fun p hp => ?_)
  obtain ⟨v, _, rfl⟩ := List.mem_map.mp hp
  exact itoa_no c h1 h2 v
def allP (c : UInt8) (s : List UInt8) : List Int × Bool := allGo (-1000000000) 1000000000 (splitL c s) []
def B9 (l : List Int) : Prop := ∀ v ∈ l, -1000000000 ≤ v ∧ v ≤ 1000000000
theorem allP_true {c : UInt8} {s : List UInt8} (h : (allP c s).2 = true) : allP c s = ((allP c s).1, true) ∧ jn Lib.itoa c (allP c s).1 = s ∧ (allP c s).1 ≠ [] ∧ B9 (allP c s).1 := by
  unfold allP at h ⊢
  obtain ⟨l, e1, e2, e3⟩ := allGo_true _ _ _ _ h
  rw [e1, List.nil_append]
  refine ⟨rfl, ?_, fun e => ?_, fun v hv => (e3 v hv).2⟩
  · dsimp only
    rw [jn_map, e2, splitL_join]
  · dsimp only at e
    rw [e, List.map_nil] at e2
    exact splitL_ne c s e2.symm
theorem allP_text {c : UInt8} (h1 : c.toNat < 48 ∨ 57 < c.toNat) (h2 : c ≠ 45) {l : List Int} (hl : l ≠ []) (hb : B9 l) : allP c (jn Lib.itoa c l) = (l, true) := by
  unfold allP
  rw [splitL_ints c h1 h2 l hl, allGo_itoa _ _ l [] (fun v hv => by have := hb v hv; omega), List.nil_append]

end Go.Proofs.YtgfpbiaocokdeaaDoor.P
/- The ground with a text, as the program reads it. -/
namespace Go.Proofs.YtgfpbiaocokdeaaDoor.P
open Go.RowKit Go.Proofs.YtgfpbiaocokdeaaDoor.P Go.Proofs.YtgfpbiaocokdeaaDoorW.PrintWords Go.Proofs.YtgfpbiaocokdeaaDoorW.PrintLast Go.Proofs.YtgfpbiaocokdeaaDoorW.PrintMore
set_option linter.unusedVariables false
set_option linter.unusedSimpArgs false
def zG : List Int × List S49 × Bool := ([], [], false)
def GoodG (r : List Int × List S49 × Bool) (s : List UInt8) : Prop :=
  (r = zG ∨ ∃ ds hs, r = (ds, hs, true) ∧ grOk ds hs = true ∧ groundT ds hs = s) ∧ ∀ ds hs, grOk ds hs = true → groundT ds hs = s → r = (ds, hs, true)
theorem goodG_eq {r q : List Int × List S49 × Bool} {s : List UInt8} (h : GoodG r s) (g : GoodG q s) : r = q := by
  rcases h.1 with e | ⟨ds, hs, e, h1, h2⟩
  · rcases g.1 with f | ⟨ds, hs, f, h1, h2⟩
    · rw [e, f]
    · have := h.2 ds hs h1 h2
      rw [e] at this
      exact absurd (congrArg (fun z => z.2.2) this) (by simp [zG])
  · rw [e, g.2 ds hs h1 h2]
structure GrV (ds : List Int) (hs : List S49) : Prop where
  dn : 1 ≤ ds.length ∧ ds.length ≤ 4
  hn : 1 ≤ hs.length ∧ hs.length ≤ 6
  dv : ∀ v ∈ ds, 1 ≤ v ∧ v ≤ 3000
  hv : ∀ h ∈ hs, (0 ≤ h.f0 ∧ h.f0 ≤ 60) ∧ h.f1.length = ds.length ∧ ∀ v ∈ h.f1, -100000 ≤ v ∧ v ≤ 100000
theorem grOk_vals {ds : List Int} {hs : List S49} (h : grOk ds hs = true) : GrV ds hs := by
  obtain ⟨h1, h2, h3, h4⟩ := grOk_in h
  refine ⟨h1, h2, fun v hv => ?_, fun x hx => ?_⟩
  · obtain ⟨i, hi, e⟩ := List.getElem_of_mem hv
    have := h3 i hi
    rw [rd_at ds i hi, e] at this
    exact this
  · obtain ⟨i, hi, e⟩ := List.getElem_of_mem hx
    have := h4 i hi
    unfold holeOk at this
    rw [rdHole_at hs i hi, e] at this
    simp only [Bool.and_eq_true, decide_eq_true_eq] at this
    obtain ⟨a1, a2, _⟩ := this
    unfold topsOk at a2
    simp only [Bool.and_eq_true, decide_eq_true_eq] at a2
    obtain ⟨b1, b2, _⟩ := a2
    refine ⟨a1, by omega, fun v hv => ?_⟩
    unfold impl_areWithin.all at b2
    rw [List.all_eq_true] at b2
    have := b2 v hv
    simpa using this
def hbT (h : S49) : List UInt8 := Lib.itoa h.f0 ++ 58 :: jn Lib.itoa 44 h.f1
theorem holeT_hb (h : S49) : holeT h = 124 :: hbT h := by
  unfold holeT hbT
  simp
theorem groundT_jn (ds : List Int) (hs : List S49) : groundT ds hs = jn (fun z => z) 124 (jn Lib.itoa 44 ds :: hs.map hbT) := by
  rw [jn_cons]
  unfold groundT holesT
  rw [List.map_map]
  congr 2
  exact List.map_congr_left (fun h _ => holeT_hb h)
theorem hbT_no (h : S49) : (124 : UInt8) ∉ hbT h := fun hm => by
  unfold hbT at hm
  rcases List.mem_append.mp hm with e | e
  · exact itoa_no 124 (by decide) (by decide) _ e
  · rcases List.mem_cons.mp e with e2 | e2
    · exact absurd e2 (by decide)
    · exact jn_no Lib.itoa 44 124 (by decide) _ (fun v _ => itoa_no 124 (by decide) (by decide) v) e2
theorem groundT_parts (ds : List Int) (hs : List S49) : splitL 124 (groundT ds hs) = jn Lib.itoa 44 ds :: hs.map hbT := by
  rw [groundT_jn]
  refine splitL_of 124 _ (by simp) (fun p hp => ?_)
  rcases List.mem_cons.mp hp with e | e
  · rw [e]; exact jn_no Lib.itoa 44 124 (by decide) _ (fun v _ => itoa_no 124 (by decide) (by decide) v)
  · obtain ⟨h, _, rfl⟩ := List.mem_map.mp e
    exact hbT_no h
theorem cut_58 {p : List UInt8} (h : (Lib.cut p [58]).2.2 = true) : p = (Lib.cut p [58]).1 ++ 58 :: (Lib.cut p [58]).2.1 := by
  by_cases c : (58 : UInt8) ∈ p
  · obtain ⟨q, r, e, hq⟩ := mem_split 58 p c
    have := cut_app 58 [] r q hq
    rw [show ([58] : List UInt8) ++ r = 58 :: r from rfl, ← e] at this
    rw [this]
    exact e
  · unfold Lib.cut at h
    rw [idx_none 58 p c, if_neg (by omega)] at h
    exact absurd h (by simp)
theorem ints_ge (c : UInt8) {l : List Int} : l.length ≤ (jn Lib.itoa c l).length + 1 := by
  cases l with
  | nil => exact Nat.zero_le _
  | cons v l =>
    have := jn_ge c ((v :: l).map Lib.itoa) (Lib.itoa v) (by simp)
    rw [← jn_map, List.length_map] at this
    omega
def v9g (s : List UInt8) : Int × Bool := valIn (-1000000000) 1000000000 s
def rdHoleT (p : List UInt8) : Option S49 :=
  if (Lib.cut p [58]).2.2 = true then (if (v9g (Lib.cut p [58]).1).2 = true then (if (allP 44 (Lib.cut p [58]).2.1).2 = true then some ⟨(v9g (Lib.cut p [58]).1).1, (allP 44 (Lib.cut p [58]).2.1).1⟩ else none) else none) else none
theorem rdHoleT_some {p : List UInt8} {h : S49} (e : rdHoleT p = some h) : hbT h = p ∧ h.f1.length ≤ p.length := by
  unfold rdHoleT at e
  split at e
  · rename_i h1
    split at e
    · rename_i h2
      split at e
      · rename_i h3
        obtain rfl := Option.some.inj e
        have c := cut_58 h1
        have a := (valIn_true h2).1
        have b := (allP_true h3).2.1
        have g := @ints_ge 44 (allP 44 (Lib.cut p [58]).2.1).1
        rw [b] at g
        have l := congrArg List.length c
        rw [List.length_append, List.length_cons] at l
        refine ⟨?_, by dsimp only; omega⟩
        unfold hbT v9g
        dsimp only
        rw [a, b]
        exact c.symm
      · cases e
    · cases e
  · cases e
theorem rdHoleT_text {h : S49} (h0 : -1000000000 ≤ h.f0 ∧ h.f0 ≤ 1000000000) (hl : h.f1 ≠ []) (hb : B9 h.f1) : rdHoleT (hbT h) = some h := by
  have hc := cut_app 58 [] (jn Lib.itoa 44 h.f1) (Lib.itoa h.f0) (itoa_no 58 (by decide) (by decide) _)
  rw [show ([58] : List UInt8) ++ jn Lib.itoa 44 h.f1 = 58 :: jn Lib.itoa 44 h.f1 from rfl] at hc
  unfold rdHoleT hbT v9g
  rw [hc]
  dsimp only
  rw [valIn_itoa (by omega) h0, allP_text (by decide) (by decide) hl hb, if_pos rfl, if_pos rfl, if_pos rfl]
def holesGo : List (List UInt8) → List S49 → Option (List S49)
  | [], acc => some acc
  | p :: ps, acc => match rdHoleT p with
    | some h => holesGo ps (acc ++ [h])
    | none => none
theorem holesGo_some : ∀ (ps : List (List UInt8)) (acc q : List S49), holesGo ps acc = some q → ∃ l, q = acc ++ l ∧ ps = l.map hbT ∧ ∀ h ∈ l, ∃ p ∈ ps, h.f1.length ≤ p.length
  | [], acc, q, h => ⟨[], by rw [List.append_nil]; exact (Option.some.inj h).symm, rfl, fun x hx => by simp at hx⟩
  | p :: ps, acc, q, h => by
    simp only [holesGo] at h
    split at h
    · rename_i x e
      obtain ⟨l, e1, e2, e3⟩ := holesGo_some ps _ q h
      obtain ⟨a, b⟩ := rdHoleT_some e
      refine ⟨x :: l, by rw [e1]; simp, by rw [List.map_cons, a, ← e2], fun y hy => ?_⟩
      rcases List.mem_cons.mp hy with z | z
      · exact ⟨p, by simp, by rw [z]; exact b⟩
      · obtain ⟨u, hu, hv⟩ := e3 y z
        exact ⟨u, List.mem_cons_of_mem _ hu, hv⟩
    · cases h
theorem holesGo_text : ∀ (l acc : List S49), (∀ h ∈ l, rdHoleT (hbT h) = some h) → holesGo (l.map hbT) acc = some (acc ++ l)
  | [], acc, _ => by rw [List.append_nil]; rfl
  | h :: l, acc, hh => by
    simp only [List.map_cons, holesGo]
    rw [hh h (by simp)]
    dsimp only
    rw [holesGo_text l _ (fun x hx => hh x (List.mem_cons_of_mem _ hx))]
    simp
def endG (b : Bool) (ds : List Int) (o : Option (List S49)) : List Int × List S49 × Bool := match o with
  | none => zG
  | some hs => if b = true then (if grOk ds hs = true then (ds, hs, true) else zG) else zG
theorem implRG_l0 (b : Bool) (ds : List Int) (L : List (List UInt8)) (hL : L.length ≤ 1048576) (hp : ∀ p ∈ L, p.length ≤ 1048576) (F : Nat) (hF : 4000000 ≤ F) : ∀ (d k i : Nat) (acc : List S49), i + d = L.length → d + F < k → acc.length ≤ i → (∀ h ∈ acc, h.f1.length ≤ 1048576) →
    impl_ReadGround.l0 k b (L.map tx) (L.length : Int) i ds acc = some (endG b ds (holesGo (L.drop i) acc)) := by
  intro d
  induction d with
  | zero =>
    intro k i acc hi hk ha hs
    obtain ⟨k, rfl⟩ : ∃ m, k = m + 1 := ⟨k - 1, by omega⟩
    simp only [impl_ReadGround.l0]
    rw [if_neg (by omega), List.drop_of_length_le (by omega)]
    simp only [holesGo, endG]
    by_cases c : b = true
    · rw [if_pos c, if_pos c, implGround_is k ds acc ⟨by omega, hs⟩ (by omega), bind_some_]
      split <;> rfl
    · rw [if_neg c, if_neg c]
      rfl
  | succ d ih =>
    intro k i acc hi hk ha hs
    obtain ⟨k, rfl⟩ : ∃ m, k = m + 1 := ⟨k - 1, by omega⟩
    have hlt : i < L.length := by omega
    have hpl := hp _ (List.getElem_mem hlt)
    have hcl := cut_len L[i] [58]
    simp only [impl_ReadGround.l0]
    rw [if_pos (by omega), if_pos (by omega), List.length_map, if_pos (by omega), rdB_at L i hlt, lit1, lit1]
    unfold strings_Cut.f
    rw [tx_size, if_pos (by omega), tx_data, tx_data, bind_some_]
    dsimp only
    rw [show (⟨(Lib.cut L[i] [58]).1.toArray⟩ : ByteArray) = tx (Lib.cut L[i] [58]).1 from rfl, show (⟨(Lib.cut L[i] [58]).2.1.toArray⟩ : ByteArray) = tx (Lib.cut L[i] [58]).2.1 from rfl, implReadDecimal_is _ (by omega), bind_some_, readAll_is _ _ 44 _ (by omega) k (by omega), bind_some_, List.drop_eq_getElem_cons hlt]
    simp only [holesGo]
    unfold rdHoleT v9g allP
    by_cases c1 : (Lib.cut L[i] [58]).2.2 = true
    · rw [if_pos c1, if_pos c1]
      by_cases c2 : (valIn (-1000000000) 1000000000 (Lib.cut L[i] [58]).1).2 = true
      · rw [if_pos c2, if_pos c2]
        by_cases c3 : (allGo (-1000000000) 1000000000 (splitL 44 (Lib.cut L[i] [58]).2.1) []).2 = true
        · have hr : rdHoleT L[i] = some ⟨(valIn (-1000000000) 1000000000 (Lib.cut L[i] [58]).1).1, (allGo (-1000000000) 1000000000 (splitL 44 (Lib.cut L[i] [58]).2.1) []).1⟩ := by
            unfold rdHoleT v9g allP
            rw [if_pos c1, if_pos c2, if_pos c3]
          have hn := (rdHoleT_some hr).2
          rw [if_pos c3, if_pos c3, if_pos (by omega), w64s i (by omega)]
          dsimp only
          refine ih k (i + 1) _ (by omega) (by omega) (by rw [List.length_append, List.length_singleton]; omega) (fun h hm => ?_)
          rcases List.mem_append.mp hm with e | e
          · exact hs h e
          · rw [List.mem_singleton.mp e]
            dsimp only at hn ⊢
            omega
        · rw [if_neg c3, if_neg c3]
          rfl
      · rw [if_neg c2, if_neg c2]
        rfl
    · rw [if_neg c1, if_neg c1]
      rfl
theorem implReadGround_good (k : Nat) (s : List UInt8) (hs : s.length ≤ 1048576) (hk : 8000000 < k) : ∃ r, impl_ReadGround.f k (tx s) = some r ∧ GoodG r s := by
  obtain ⟨p0, ps, e⟩ := splitL_cons 124 s
  have hl := splitL_len 124 s
  have hj := splitL_join 124 s
  have hl2 := hl.2
  rw [e] at hl2 hj
  have hlen : ps.length ≤ 1048576 := by
    have := hl.1
    rw [e, List.length_cons] at this
    omega
  have g0 := hl2 p0 (by simp)
  unfold impl_ReadGround.f
  rw [lit1, split_is 124 s (by omega), bind_some_, e]
  have r0 := rdB_at (p0 :: ps) 0 (by simp)
  rw [show ((0 : Nat) : Int) = 0 from rfl, show (p0 :: ps)[0] = p0 from rfl] at r0
  have ht : ((p0 :: ps).map tx).drop (1 : Int).toNat = ps.map tx := rfl
  rw [List.length_map, List.length_cons, if_pos (by omega), r0, lit1, readAll_is _ _ 44 p0 (by omega) k (by omega), bind_some_, if_pos (by omega), ht, bind_some_, List.length_map]
  have hb := implRG_l0 (allGo (-1000000000) 1000000000 (splitL 44 p0) []).2 (allGo (-1000000000) 1000000000 (splitL 44 p0) []).1 ps hlen (fun p hp => by have := hl2 p (List.mem_cons_of_mem _ hp); omega) 4000000 (by omega) ps.length k 0 [] (by omega) (by omega) (by simp) (fun h hh => by simp at hh)
  rw [List.drop_zero, show ((0 : Nat) : Int) = 0 from rfl] at hb
  rw [hb]
  refine ⟨_, rfl, ?_, fun ds hs hh ht => ?_⟩
  · cases hc : holesGo ps [] with
    | none => exact Or.inl rfl
    | some q =>
      obtain ⟨l, e1, e2, _⟩ := holesGo_some _ _ _ hc
      rw [List.nil_append] at e1
      subst e1
      simp only [endG]
      split
      · rename_i c1
        split
        · rename_i c2
          refine Or.inr ⟨_, _, rfl, c2, ?_⟩
          have h3 := (allP_true (c := 44) (s := p0) c1).2.1
          unfold allP at h3
          rw [groundT_jn, h3, ← e2]
          exact hj
        · exact Or.inl rfl
      · exact Or.inl rfl
  · have hv := grOk_vals hh
    have hp := groundT_parts ds hs
    rw [ht, e] at hp
    simp only [List.cons.injEq] at hp
    obtain ⟨a0, a1⟩ := hp
    have hd := allP_text (c := 44) (by decide) (by decide) (l := ds) (fun z => by have := hv.dn.1; rw [z] at this; simp at this) (fun v hm => by have := hv.dv v hm; omega)
    unfold allP at hd
    rw [a0, a1, hd, holesGo_text hs [] (fun h hm => by
      have := hv.hv h hm
      exact rdHoleT_text (by omega) (fun z => by have h1 := hv.dn.1; rw [← this.2.1, z] at h1; simp at h1) (fun v hm2 => by have := this.2.2 v hm2; omega)), List.nil_append]
    simp only [endG]
    rw [if_pos trivial, if_pos hh]

end Go.Proofs.YtgfpbiaocokdeaaDoor.P
/- A byte of a text. -/
namespace Go.Proofs.YtgfpbiaocokdeaaDoor.P
open Go.RowKit Go.Proofs.YtgfpbiaocokdeaaDoor.P Go.Proofs.YtgfpbiaocokdeaaDoorW.PrintWords Go.Proofs.YtgfpbiaocokdeaaDoorW.PrintLast Go.Proofs.YtgfpbiaocokdeaaDoorW.PrintMore
set_option linter.unusedVariables false
set_option linter.unusedSimpArgs false
theorem bt_at (l : List UInt8) (i : Nat) (h : i < l.length) : bt (tx l) (i : Int) = (l[i].toNat : Int) := by
  unfold bt
  have h2 : ((i : Int)).toNat < (tx l).size := by rw [tx_size, Int.toNat_natCast]; exact h
  rw [dif_pos h2]
  rfl

end Go.Proofs.YtgfpbiaocokdeaaDoor.P
/- What the numbers of a text are at most. -/
namespace Go.Proofs.YtgfpbiaocokdeaaDoor.P
open Go.RowKit Go.Proofs.YtgfpbiaocokdeaaDoor.P Go.Proofs.YtgfpbiaocokdeaaDoorW.PrintWords Go.Proofs.YtgfpbiaocokdeaaDoorW.PrintLast Go.Proofs.YtgfpbiaocokdeaaDoorW.PrintMore
set_option linter.unusedVariables false
set_option linter.unusedSimpArgs false
theorem wrap_rng (x : Int) : -9223372036854775808 ≤ wrap64 x ∧ wrap64 x ≤ 9223372036854775807 := by unfold wrap64; omega
theorem nums_i64 : ∀ (F : Nat) (s : List UInt8) (out : List Int), I64s out → I64s (nums F s out)
  | 0, s, out, h => h
  | F + 1, [], out, h => h
  | F + 1, c :: r, out, h => by
    have happ : ∀ x, I64s (out ++ [wrap64 x]) := fun x v hv => by
      rcases List.mem_append.mp hv with e | e
      · exact h v e
      · rw [List.mem_singleton.mp e]; exact wrap_rng x
    simp only [nums]
    split
    · exact nums_i64 F _ _ (happ _)
    · split
      · exact nums_i64 F _ _ (happ _)
      · exact nums_i64 F r out h
theorem nums_len : ∀ (F : Nat) (s : List UInt8) (out : List Int), (nums F s out).length ≤ out.length + s.length
  | 0, s, out => by simp [nums]
  | F + 1, [], out => by simp [nums]
  | F + 1, c :: r, out => by
    have h8 := takeD_len 8 r 0
    simp only [nums]
    split
    · rename_i ht
      have hd : isDg c = true := by
        unfold tok at ht
        split at ht
        · assumption
        · split at ht
          · split at ht
            · omega
            · split at ht <;> omega
          · omega
      have e : takeD 8 (c :: r) 0 = takeD 7 r (wrap64 (wrap64 (10 * 0) + (((c.toNat : Int) - 48) % 256))) := by
        simp only [takeD]
        rw [if_pos hd]
      have h7 := takeD_len 7 r (wrap64 (wrap64 (10 * 0) + (((c.toNat : Int) - 48) % 256)))
      have := nums_len F (takeD 8 (c :: r) 0).2 (out ++ [wrap64 (1 * (takeD 8 (c :: r) 0).1)])
      rw [List.length_append, List.length_singleton] at this
      rw [e] at this
      rw [List.length_cons, e]
      omega
    · split
      · have := nums_len F (takeD 8 r 0).2 (out ++ [wrap64 (-1 * (takeD 8 r 0).1)])
        rw [List.length_append, List.length_singleton] at this
        rw [List.length_cons]
        omega
      · have := nums_len F r out
        rw [List.length_cons]
        omega
theorem numsOf_64 (s : List UInt8) : I64s (numsOf s []) ∧ (numsOf s []).length ≤ s.length := by
  have h := nums_len (s.length + 1) s []
  exact ⟨nums_i64 _ s [] (fun v hv => by simp at hv), by unfold numsOf; simpa using h⟩
theorem numsOf_list (c : UInt8) (h1 : isDg c = false) (h2 : c ≠ 45) (l : List Int) (h : ∀ v ∈ l, -99999999 ≤ v ∧ v ≤ 99999999) : numsOf (jn Lib.itoa c l) [] = l := by
  have := numsOf_jn c h1 h2 [] trivial l [] h
  rw [List.append_nil, List.nil_append, numsOf_nil] at this
  exact this

end Go.Proofs.YtgfpbiaocokdeaaDoor.P
/- The numbers of a text, as the reference's loops read them. -/
namespace Go.Proofs.YtgfpbiaocokdeaaDoor.P
open Go.RowKit Go.Proofs.YtgfpbiaocokdeaaDoor.P Go.Proofs.YtgfpbiaocokdeaaDoorW.PrintWords Go.Proofs.YtgfpbiaocokdeaaDoorW.PrintLast Go.Proofs.YtgfpbiaocokdeaaDoorW.PrintMore
set_option linter.unusedVariables false
set_option linter.unusedSimpArgs false
theorem specNums_l1 (s : List UInt8) (hs : s.length ≤ 1048576) (out : List Int) (ho : out.length ≤ 2000000) (sg : Int) : ∀ (n k i : Nat) (a : Int), n ≤ 8 → i ≤ s.length → n + 2 < k →
    ∃ j q : Nat, i ≤ j ∧ j ≤ s.length ∧ k ≤ q + n + 1 ∧ ((0 < n ∧ ∃ c r, s.drop i = c :: r ∧ isDg c = true) → i < j) ∧ (takeD n (s.drop i) a).2 = s.drop j ∧ spec_l02Numbers.l1 k (tx s) out i sg a ((8 - n : Nat) : Int) = spec_l02Numbers.l0 q (tx s) (out ++ [wrap64 (sg * (takeD n (s.drop i) a).1)]) (j : Int) := by
  intro n
  induction n with
  | zero =>
    intro k i a h8 hi hk
    obtain ⟨k, rfl⟩ : ∃ m, k = m + 1 := ⟨k - 1, by omega⟩
    refine ⟨i, k, Nat.le_refl _, hi, by omega, fun h => by omega, rfl, ?_⟩
    simp only [spec_l02Numbers.l1]
    rw [if_neg (by omega), if_pos (by omega)]
    rfl
  | succ n ih =>
    intro k i a h8 hi hk
    obtain ⟨k, rfl⟩ : ∃ m, k = m + 1 := ⟨k - 1, by omega⟩
    simp only [spec_l02Numbers.l1]
    rw [if_pos (by omega), tx_size]
    by_cases hlt : i < s.length
    · rw [if_pos (by omega), if_pos (by omega), bt_at s i hlt, List.drop_eq_getElem_cons hlt]
      simp only [takeD]
      by_cases hd : isDg s[i] = true
      · have hd2 := of_decide_eq_true hd
        obtain ⟨j, q, e1, e2, e3, _, e5, e6⟩ := ih k (i + 1) (wrap64 (wrap64 (10 * a) + (((s[i].toNat : Nat) : Int) - 48) % 256)) (by omega) (by omega) (by omega)
        refine ⟨j, q, by omega, e2, by omega, fun _ => by omega, ?_, ?_⟩
        · rw [if_pos hd]
          exact e5
        · rw [if_pos (by omega), if_pos (by omega), if_pos hd, w64s i (by omega), w64 (((8 - (n + 1) : Nat) : Int) + 1) (by omega) (by omega), show ((8 - (n + 1) : Nat) : Int) + 1 = ((8 - n : Nat) : Int) by omega]
          exact e6
      · refine ⟨i, k, Nat.le_refl _, hi, by omega, fun h => ?_, ?_, ?_⟩
        · obtain ⟨_, c, r, e, h2⟩ := h
          simp only [List.cons.injEq] at e
          rw [e.1] at hd
          exact absurd h2 hd
        · rw [if_neg hd, ← List.drop_eq_getElem_cons hlt]
        · rw [if_neg hd]
          have hd2 : ¬ (48 ≤ s[i].toNat ∧ s[i].toNat ≤ 57) := fun z => hd (decide_eq_true z)
          by_cases h1 : ((s[i].toNat : Nat) : Int) ≥ 48
          · rw [if_pos h1, if_neg (by omega), if_pos (by omega)]
          · rw [if_neg h1, if_pos (by omega)]
    · refine ⟨i, k, Nat.le_refl _, hi, by omega, fun h => ?_, ?_, ?_⟩
      · obtain ⟨_, c, r, e, _⟩ := h
        rw [List.drop_of_length_le (by omega)] at e
        cases e
      · rw [List.drop_of_length_le (by omega)]
        rfl
      · rw [if_neg (by omega), if_pos (by omega), List.drop_of_length_le (by omega)]
        rfl
theorem specNums_l0 (s : List UInt8) (hs : s.length ≤ 1048576) : ∀ (F k i : Nat) (out : List Int), i ≤ s.length → s.length - i < F → 20 * (s.length - i) + 200 < k → out.length ≤ i → spec_l02Numbers.l0 k (tx s) out i = some (nums F (s.drop i) out) := by
  intro F
  induction F with
  | zero => intro k i out _ h; omega
  | succ F ih =>
    intro k i out hi hF hk ho
    obtain ⟨k, rfl⟩ : ∃ m, k = m + 4 := ⟨k - 4, by omega⟩
    by_cases hlt : i < s.length
    · have hdr := List.drop_eq_getElem_cons hlt
      rw [hdr]
      simp only [spec_l02Numbers.l0, nums]
      rw [tx_size, if_pos (by omega), if_pos (by omega), bt_at s i hlt]
      have hdig : isDg s[i] = true → spec_l02Numbers.j3 (k + 1) (tx s) out i 1 = some (nums F (takeD 8 (s[i] :: s.drop (i + 1)) 0).2 (out ++ [wrap64 (1 * (takeD 8 (s[i] :: s.drop (i + 1)) 0).1)])) := fun hd => by
        simp only [spec_l02Numbers.j3]
        obtain ⟨j, q, e1, e2, e3, e4, e5, e6⟩ := specNums_l1 s hs out (by omega) 1 8 k i 0 (by omega) (by omega) (by omega)
        have hj := e4 ⟨by omega, _, _, hdr, hd⟩
        rw [hdr] at e5 e6
        rw [show ((8 - 8 : Nat) : Int) = 0 from rfl] at e6
        rw [e6, e5]
        exact ih q j _ e2 (by omega) (by omega) (by rw [List.length_append, List.length_singleton]; omega)
      have hnext : ∀ q, 20 * (s.length - (i + 1)) + 200 < q → spec_l02Numbers.l0 q (tx s) out (wrap64 ((i : Int) + 1)) = some (nums F (s.drop (i + 1)) out) := fun q hq => by
        rw [w64s i (by omega)]
        exact ih q (i + 1) out (by omega) (by omega) hq (by omega)
      by_cases h45 : ((s[i].toNat : Nat) : Int) = 45
      · have e45 : s[i] = 45 := UInt8.toNat_inj.mp (by rw [show (45 : UInt8).toNat = 45 from rfl]; omega)
        have hnd : isDg s[i] = false := by rw [e45]; rfl
        rw [if_pos h45]
        simp only [spec_l02Numbers.j1]
        rw [if_pos (by omega), tx_size, if_pos (by omega), bt_at s i hlt, if_pos (by omega)]
        simp only [spec_l02Numbers.j2]
        rw [if_pos trivial, if_neg (by omega), tx_size, w64s i (by omega)]
        have ht0 : tok s[i] [] = 0 := by
          unfold tok
          rw [if_neg (by rw [hnd]; simp), if_pos e45]
        have ht1 : ∀ (d : UInt8) (r : List UInt8), tok s[i] (d :: r) = if isDg d = true then -1 else 0 := fun d r => by
          unfold tok
          rw [if_neg (by rw [hnd]; simp), if_pos e45]
        by_cases hend : i + 1 = s.length
        · rw [if_pos (by omega)]
          have := hnext (k + 1) (by omega)
          rw [w64s i (by omega)] at this
          rw [this, List.drop_of_length_le (by omega), ht0, if_neg (by omega), if_neg (by omega)]
        · have hlt2 : i + 1 < s.length := by omega
          rw [if_neg (by omega), if_pos (by omega), if_pos (by omega), bt_at s (i + 1) hlt2]
          have ht := ht1 s[i + 1] (s.drop (i + 1 + 1))
          have hskip : isDg s[i + 1] = false → spec_l02Numbers.l0 (k + 1) (tx s) out ((i + 1 : Nat) : Int) = some (if tok s[i] (s.drop (i + 1)) = 1 then nums F (takeD 8 (s[i] :: s.drop (i + 1)) 0).2 (out ++ [wrap64 (1 * (takeD 8 (s[i] :: s.drop (i + 1)) 0).1)]) else if tok s[i] (s.drop (i + 1)) = -1 then nums F (takeD 8 (s.drop (i + 1)) 0).2 (out ++ [wrap64 (-1 * (takeD 8 (s.drop (i + 1)) 0).1)]) else nums F (s.drop (i + 1)) out) := fun hz => by
            have := hnext (k + 1) (by omega)
            rw [w64s i (by omega)] at this
            rw [List.drop_eq_getElem_cons hlt2, ht, hz, if_neg (show ¬ (false = true) by simp), if_neg (by omega), if_neg (by omega), ← List.drop_eq_getElem_cons hlt2]
            exact this
          by_cases h1 : ((s[i + 1].toNat : Nat) : Int) < 48
          · rw [if_pos h1]
            exact hskip (by unfold isDg; exact decide_eq_false (by omega))
          · rw [if_neg h1]
            by_cases h2 : ((s[i + 1].toNat : Nat) : Int) > 57
            · rw [if_pos h2]
              exact hskip (by unfold isDg; exact decide_eq_false (by omega))
            · rw [if_neg h2]
              have hd : isDg s[i + 1] = true := by unfold isDg; exact decide_eq_true (by omega)
              simp only [spec_l02Numbers.j3]
              obtain ⟨j, q, e1, e2, e3, e4, e5, e6⟩ := specNums_l1 s hs out (by omega) (-1) 8 k (i + 1) 0 (by omega) (by omega) (by omega)
              have hj := e4 ⟨by omega, _, _, List.drop_eq_getElem_cons hlt2, hd⟩
              rw [show ((8 - 8 : Nat) : Int) = 0 from rfl] at e6
              rw [e6]
              have hk1 : tok s[i] (s.drop (i + 1)) = -1 := by rw [List.drop_eq_getElem_cons hlt2, ht, hd, if_pos rfl]
              rw [hk1, if_neg (by omega), if_pos rfl, e5]
              exact ih q j _ e2 (by omega) (by omega) (by rw [List.length_append, List.length_singleton]; omega)
      · have n45 : s[i] ≠ 45 := fun e => h45 (by rw [e]; rfl)
        rw [if_neg h45]
        simp only [spec_l02Numbers.j1]
        rw [if_pos (by omega), tx_size, if_pos (by omega), bt_at s i hlt]
        have hskip : isDg s[i] = false → spec_l02Numbers.l0 (k + 1) (tx s) out (wrap64 ((i : Int) + 1)) = some (if tok s[i] (s.drop (i + 1)) = 1 then nums F (takeD 8 (s[i] :: s.drop (i + 1)) 0).2 (out ++ [wrap64 (1 * (takeD 8 (s[i] :: s.drop (i + 1)) 0).1)]) else if tok s[i] (s.drop (i + 1)) = -1 then nums F (takeD 8 (s.drop (i + 1)) 0).2 (out ++ [wrap64 (-1 * (takeD 8 (s.drop (i + 1)) 0).1)]) else nums F (s.drop (i + 1)) out) := fun hz => by
          rw [tok_sep s[i] _ hz n45, if_neg (by omega), if_neg (by omega)]
          exact hnext (k + 1) (by omega)
        by_cases h1 : ((s[i].toNat : Nat) : Int) < 48
        · rw [if_pos h1]
          simp only [spec_l02Numbers.j2]
          rw [if_pos trivial, if_pos (by omega)]
          exact hskip (by unfold isDg; exact decide_eq_false (by omega))
        · rw [if_neg h1]
          simp only [spec_l02Numbers.j2]
          by_cases h2 : ((s[i].toNat : Nat) : Int) > 57
          · rw [decide_eq_true h2, if_pos rfl, if_pos (by omega)]
            exact hskip (by unfold isDg; exact decide_eq_false (by omega))
          · have hd : isDg s[i] = true := by unfold isDg; exact decide_eq_true (by omega)
            rw [decide_eq_false h2, if_neg (by simp), hdig hd]
            have : tok s[i] (s.drop (i + 1)) = 1 := by
              unfold tok
              rw [if_pos hd]
            rw [this, if_pos rfl]
    · rw [List.drop_of_length_le (by omega)]
      simp only [spec_l02Numbers.l0, nums]
      rw [tx_size, if_neg (by omega)]
theorem specNums_is (s : List UInt8) (hs : s.length ≤ 1048576) (k : Nat) (hk : 20 * s.length + 200 < k) : spec_l02Numbers.f k (tx s) = some (numsOf s []) := by
  unfold spec_l02Numbers.f numsOf
  exact specNums_l0 s hs (s.length + 1) k 0 [] (by omega) (by omega) (by omega) (by simp)

end Go.Proofs.YtgfpbiaocokdeaaDoor.P
/- The ground with a text, as the reference reads it. -/
namespace Go.Proofs.YtgfpbiaocokdeaaDoor.P
open Go.RowKit Go.Proofs.YtgfpbiaocokdeaaDoor.P Go.Proofs.YtgfpbiaocokdeaaDoorW.PrintWords Go.Proofs.YtgfpbiaocokdeaaDoorW.PrintLast Go.Proofs.YtgfpbiaocokdeaaDoorW.PrintMore
set_option linter.unusedVariables false
set_option linter.unusedSimpArgs false
def tailT (ps : List (List UInt8)) : List UInt8 := (ps.map (fun p => 124 :: p)).flatten
theorem tailT_cons (p : List UInt8) (ps : List (List UInt8)) : tailT (p :: ps) = (124 :: p) ++ tailT ps := by
  unfold tailT
  rw [List.map_cons, List.flatten_cons]
def specHoles : List (List UInt8) → List S49 → Option (List S49)
  | [], acc => some acc
  | p :: ps, acc => if acc.length ≤ 6 then (if (numsOf p []).length < 2 then none else specHoles ps (acc ++ [⟨rd (numsOf p []) 0, (numsOf p []).drop 1⟩])) else some acc
def chkG (s : List UInt8) (ds : List Int) (o : Option (List S49)) : List Int × List S49 × Bool := match o with
  | none => zG
  | some hs => if grOk ds hs = true then (if groundT ds hs = s then (ds, hs, true) else zG) else zG
theorem numsOf_hb {h : S49} (h0 : -99999999 ≤ h.f0 ∧ h.f0 ≤ 99999999) (h1 : ∀ v ∈ h.f1, -99999999 ≤ v ∧ v ≤ 99999999) : numsOf (hbT h) [] = h.f0 :: h.f1 := by
  unfold hbT
  rw [numsOf_int h.f0 h0 _ (by exact (rfl : isDg 58 = false)), numsOf_skip 58 _ _ (tok_sep 58 _ rfl (by decide))]
  have := numsOf_jn 44 rfl (by decide) [] trivial h.f1 ([] ++ [h.f0]) h1
  rw [List.append_nil, numsOf_nil] at this
  exact this
theorem specHoles_text : ∀ (l acc : List S49), acc.length + l.length ≤ 6 → (∀ h ∈ l, h.f1 ≠ [] ∧ numsOf (hbT h) [] = h.f0 :: h.f1) → specHoles (l.map hbT) acc = some (acc ++ l)
  | [], acc, _, _ => by rw [List.append_nil]; rfl
  | h :: l, acc, hl, hh => by
    obtain ⟨a, b⟩ := hh h (by simp)
    have hpos := List.length_pos_iff.mpr a
    rw [List.length_cons] at hl
    simp only [List.map_cons, specHoles]
    rw [if_pos (by omega), b, if_neg (by rw [List.length_cons]; omega)]
    have e : (⟨rd (h.f0 :: h.f1) 0, (h.f0 :: h.f1).drop 1⟩ : S49) = h := rfl
    rw [e, specHoles_text l _ (by rw [List.length_append, List.length_singleton]; omega) (fun x hx => hh x (List.mem_cons_of_mem _ hx))]
    simp
theorem specL06_is (k : Nat) (ds : List Int) (hs : List S49) (hd : ds.length ≤ 1048576) (h1 : I64s ds) (hp : shortH hs) (h : H64 hs) (hk : 8000000 < k) : spec_l06Text.f k ds hs = some (tx (groundT ds hs)) := by
  have a1 := jn_ints 44 h1 ds.length
  rw [List.take_of_length_le (Nat.le_refl _)] at a1
  have := specGroundT_l0 ds (jn Lib.itoa 44 ds) (by omega) hs hp.1 h 1048640 (by omega) hs.length k 0 (by omega) (by have := hp.1; omega)
  rw [List.take_zero, show holesT [] = [] from rfl, List.append_nil, show ((0 : Nat) : Int) = 0 from rfl] at this
  unfold spec_l06Text.f
  rw [specComma_is k ds hd h1 (by omega), bind_some_, this]
  rfl
theorem specEnd (k : Nat) (s : List UInt8) (x : Int) (ds : List Int) (hs : List S49) (hd : ds.length ≤ 1048576) (h1 : I64s ds) (hp : shortH hs) (h : H64 hs) (hk : 8000000 < k) : spec_ReadGround.j3 (k + 1) (tx s) x false ds hs = some (chkG s ds (some hs)) := by
  simp only [spec_ReadGround.j3, chkG]
  rw [if_neg (by simp), specGround_is k ds hs hd hp (by omega), bind_some_]
  by_cases c : grOk ds hs = true
  · rw [if_pos c, if_pos c, specL06_is k ds hs hd h1 hp h hk, bind_some_, tx_toList, tx_toList]
    split <;> rfl
  · rw [if_neg c, if_neg c]
    rfl
theorem specRG_l2 (s pre p : List UInt8) (ps : List (List UInt8)) (es : s = pre ++ ((124 :: p) ++ tailT ps)) (hs : s.length ≤ 1048576) (hp : (124 : UInt8) ∉ p) (ds : List Int) (acc : List S49) (ha : acc.length ≤ 1048576) (K : Nat) (hK : 22000000 < K) : ∀ (d j : Nat), j + d = p.length →
    spec_ReadGround.l2 (K + d + 1) (tx s) (pre.length : Int) ((pre.length + 1 + j : Nat) : Int) ds acc = if (numsOf p []).length < 2 then some zG else spec_ReadGround.l1 K (tx s) ((pre ++ 124 :: p).length : Int) ds (acc ++ [⟨rd (numsOf p []) 0, (numsOf p []).drop 1⟩]) := by
  have hlen := congrArg List.length es
  simp only [List.length_append, List.length_cons] at hlen
  intro d
  induction d with
  | zero =>
    intro j hj
    have hx : (s.drop pre.length).take (pre.length + 1 + j - pre.length) = 124 :: p := by
      rw [es, List.drop_left, show pre.length + 1 + j - pre.length = (124 :: p).length by rw [List.length_cons]; omega, List.take_left]
    have hn := specNums_is (124 :: p) (by rw [List.length_cons]; omega) K (by rw [List.length_cons]; omega)
    rw [numsOf_skip 124 _ _ (tok_sep 124 _ rfl (by decide))] at hn
    have hfin : ((spec_l02Numbers.f K ((tx s).extract ((pre.length : Nat) : Int).toNat ((pre.length + 1 + j : Nat) : Int).toNat)).bind fun t => (if (t.length : Int) < 2 then (some (([] : List Int), ([] : List S49), false)) else (if 0 < (t.length : Int) then (if 1 ≤ (t.length : Int) then (if acc.length < 4398046511104 then (spec_ReadGround.l1 K (tx s) ((pre.length + 1 + j : Nat) : Int) ds (acc ++ [(⟨rd t 0, (t.drop 1)⟩ : S49)])) else (none)) else (none)) else (none)))) = if (numsOf p []).length < 2 then some zG else spec_ReadGround.l1 K (tx s) ((pre ++ 124 :: p).length : Int) ds (acc ++ [⟨rd (numsOf p []) 0, (numsOf p []).drop 1⟩]) := by
      rw [Int.toNat_natCast, Int.toNat_natCast, ext_tx, hx, hn, bind_some_]
      by_cases c : (numsOf p []).length < 2
      · rw [if_pos (by omega), if_pos c]
        rfl
      · rw [if_neg (by omega), if_pos (by omega), if_pos (by omega), if_pos (by omega), if_neg c, List.length_append, List.length_cons, show pre.length + (p.length + 1) = pre.length + 1 + j by omega]
    rw [← hfin]
    simp only [spec_ReadGround.l2, Nat.add_zero]
    rw [tx_size]
    cases ps with
    | nil =>
      simp only [tailT, List.map_nil, List.flatten_nil, List.length_nil] at hlen
      rw [if_neg (by omega), if_pos (by omega), if_pos (by omega), if_pos (by omega)]
    | cons q qs =>
      rw [tailT_cons] at hlen
      simp only [List.length_append, List.length_cons] at hlen
      have hlt : pre.length + 1 + j < s.length := by omega
      have hg : s[pre.length + 1 + j]? = some 124 := by
        rw [es, tailT_cons, List.getElem?_append_right (by omega), List.getElem?_append_right (by rw [List.length_cons]; omega), show pre.length + 1 + j - pre.length - (124 :: p).length = 0 by rw [List.length_cons]; omega]
        rfl
      rw [List.getElem?_eq_getElem hlt] at hg
      rw [if_pos (by omega), if_pos (by omega), bt_at s _ hlt, Option.some.inj hg, if_pos (by decide), if_pos (by omega), if_pos (by omega), if_pos (by omega)]
  | succ d ih =>
    intro j hj
    have hjl : j < p.length := by omega
    have hlt : pre.length + 1 + j < s.length := by omega
    have hg : s[pre.length + 1 + j]? = some p[j] := by
      rw [es, List.getElem?_append_right (by omega), show pre.length + 1 + j - pre.length = j + 1 by omega, List.cons_append, List.getElem?_cons_succ, List.getElem?_append_left hjl, List.getElem?_eq_getElem hjl]
    rw [List.getElem?_eq_getElem hlt] at hg
    have hne : ¬ ((p[j].toNat : Nat) : Int) = 124 := fun z => hp (by
      have : p[j] = 124 := UInt8.toNat_inj.mp (by have : (124 : UInt8).toNat = 124 := rfl; omega)
      rw [← this]
      exact List.getElem_mem hjl)
    have := ih (j + 1) (by omega)
    rw [show K + (d + 1) + 1 = (K + d + 1) + 1 by omega]
    simp only [spec_ReadGround.l2]
    rw [tx_size, if_pos (by omega), if_pos (by omega), bt_at s _ hlt, Option.some.inj hg, if_neg hne, w64 (((pre.length + 1 + j : Nat) : Int) + 1) (by omega) (by omega), show (((pre.length + 1 + j : Nat) : Int) + 1) = ((pre.length + 1 + (j + 1) : Nat) : Int) by omega]
    exact this
theorem specRG_l1 (s : List UInt8) (hs : s.length ≤ 1048576) (ds : List Int) (hd : ds.length ≤ 1048576) (h1 : I64s ds) : ∀ (ps : List (List UInt8)) (pre : List UInt8) (k : Nat) (acc : List S49), s = pre ++ tailT ps → (∀ p ∈ ps, (124 : UInt8) ∉ p) → 22000010 + 3 * (tailT ps).length < k → acc.length + ps.length ≤ 1048576 → shortH acc → H64 acc →
    spec_ReadGround.l1 k (tx s) (pre.length : Int) ds acc = some (chkG s ds (specHoles ps acc))
  | [], pre, k, acc, es, _, hk, _, a2, a3 => by
    obtain ⟨k, rfl⟩ : ∃ m, k = m + 2 := ⟨k - 2, by omega⟩
    have hlen := congrArg List.length es
    simp only [tailT, List.map_nil, List.flatten_nil, List.append_nil] at hlen
    simp only [spec_ReadGround.l1]
    rw [tx_size, if_neg (by omega)]
    exact specEnd k s _ ds acc hd h1 a2 a3 (by omega)
  | p :: ps, pre, k, acc, es, hp, hk, a1, a2, a3 => by
    have hlen := congrArg List.length es
    rw [tailT_cons] at es hk hlen
    simp only [List.length_append, List.length_cons] at hlen hk a1
    obtain ⟨K, rfl⟩ : ∃ m, k = m + p.length + 1 + 2 := ⟨k - p.length - 3, by omega⟩
    simp only [spec_ReadGround.l1, specHoles]
    rw [tx_size, if_pos (by omega)]
    by_cases c : acc.length ≤ 6
    · have hz := specRG_l2 s pre p ps es hs (hp p (by simp)) ds acc (by omega) K (by omega) p.length 0 (by omega)
      have n := numsOf_64 p
      rw [decide_eq_true (show ((acc.length : Nat) : Int) ≤ 6 by omega), if_pos c]
      simp only [spec_ReadGround.j3]
      rw [if_pos trivial, w64s pre.length (by omega), show ((pre.length + 1 : Nat) : Int) = ((pre.length + 1 + 0 : Nat) : Int) from rfl, hz]
      by_cases c2 : (numsOf p []).length < 2
      · rw [if_pos c2, if_pos c2]
        rfl
      · rw [if_neg c2, if_neg c2]
        refine specRG_l1 s hs ds hd h1 ps (pre ++ 124 :: p) K _ (by rw [es]; simp) (fun q hq => hp q (List.mem_cons_of_mem _ hq)) (by omega) (by rw [List.length_append, List.length_singleton]; omega) ⟨by rw [List.length_append, List.length_singleton]; omega, fun t ht => ?_⟩ (fun t ht => ?_)
        · rcases List.mem_append.mp ht with e | e
          · exact a2.2 t e
          · rw [List.mem_singleton.mp e]
            dsimp only
            rw [List.length_drop]
            omega
        · rcases List.mem_append.mp ht with e | e
          · exact a3 t e
          · rw [List.mem_singleton.mp e]
            dsimp only
            have e0 := rd_at (numsOf p []) 0 (by omega)
            rw [show ((0 : Nat) : Int) = 0 from rfl] at e0
            refine ⟨?_, by rw [List.length_drop]; omega, fun v hv => n.1 v (List.mem_of_mem_drop hv)⟩
            rw [e0]
            exact n.1 _ (List.getElem_mem _)
    · rw [decide_eq_false (show ¬ ((acc.length : Nat) : Int) ≤ 6 by omega), if_neg c]
      exact specEnd (K + p.length + 1) s _ ds acc hd h1 a2 a3 (by omega)
theorem specRG_l0 (s p : List UInt8) (ps : List (List UInt8)) (es : s = p ++ tailT ps) (hs : s.length ≤ 1048576) (hp : (124 : UInt8) ∉ p) (K : Nat) : ∀ (d j : Nat), j + d = p.length →
    spec_ReadGround.l0 (K + d + 1) (tx s) ((j : Nat) : Int) = spec_ReadGround.j1 K (tx s) (p.length : Int) := by
  have hlen := congrArg List.length es
  simp only [List.length_append] at hlen
  intro d
  induction d with
  | zero =>
    intro j hj
    simp only [spec_ReadGround.l0, Nat.add_zero]
    rw [tx_size, show j = p.length by omega]
    cases ps with
    | nil =>
      simp only [tailT, List.map_nil, List.flatten_nil, List.length_nil] at hlen
      rw [if_neg (by omega)]
    | cons q qs =>
      rw [tailT_cons] at hlen
      simp only [List.length_append, List.length_cons] at hlen
      have hlt : p.length < s.length := by omega
      have hg : s[p.length]? = some 124 := by
        rw [es, tailT_cons, List.getElem?_append_right (Nat.le_refl _), Nat.sub_self]
        rfl
      rw [List.getElem?_eq_getElem hlt] at hg
      rw [if_pos (by omega), if_pos (by omega), bt_at s _ hlt, Option.some.inj hg, if_pos (by decide)]
  | succ d ih =>
    intro j hj
    have hjl : j < p.length := by omega
    have hlt : j < s.length := by omega
    have hg : s[j]? = some p[j] := by
      rw [es, List.getElem?_append_left hjl, List.getElem?_eq_getElem hjl]
    rw [List.getElem?_eq_getElem hlt] at hg
    have hne : ¬ ((p[j].toNat : Nat) : Int) = 124 := fun z => hp (by
      have : p[j] = 124 := UInt8.toNat_inj.mp (by have : (124 : UInt8).toNat = 124 := rfl; omega)
      rw [← this]
      exact List.getElem_mem hjl)
    rw [show K + (d + 1) + 1 = (K + d + 1) + 1 by omega]
    simp only [spec_ReadGround.l0]
    rw [tx_size, if_pos (by omega), if_pos (by omega), bt_at s _ hlt, Option.some.inj hg, if_neg hne, w64s j (by omega)]
    exact ih (j + 1) (by omega)
theorem specReadGround_good (k : Nat) (s : List UInt8) (hs : s.length ≤ 1048576) (hk : 30000000 < k) : ∃ r, spec_ReadGround.f k (tx s) = some r ∧ GoodG r s := by
  obtain ⟨p0, ps, e⟩ := splitL_cons 124 s
  have hj := splitL_join 124 s
  have hfr := splitL_free 124 s
  have hl := splitL_len 124 s
  rw [e] at hj hfr hl
  rw [List.length_cons] at hl
  have es : s = p0 ++ tailT ps := by
    rw [jn_cons] at hj
    exact hj.symm
  have hlen := congrArg List.length es
  rw [List.length_append] at hlen
  obtain ⟨K, rfl⟩ : ∃ m, k = m + p0.length + 2 := ⟨k - p0.length - 2, by omega⟩
  have n := numsOf_64 p0
  have h0 := specRG_l0 s p0 ps es hs (hfr p0 (by simp)) (K + 1) p0.length 0 (by omega)
  rw [show K + 1 + p0.length + 1 = K + p0.length + 2 by omega, show ((0 : Nat) : Int) = 0 from rfl] at h0
  have hx : (tx s).extract 0 ((p0.length : Nat) : Int).toNat = tx p0 := by
    rw [Int.toNat_natCast, ext_tx, List.drop_zero, Nat.sub_zero]
    congr 1
    rw [es, List.take_left]
  have h1 := specRG_l1 s hs (numsOf p0 []) (by omega) n.1 ps p0 K [] es (fun p hp => hfr p (List.mem_cons_of_mem _ hp)) (by omega) (by simp only [List.length_nil]; omega) ⟨by simp, fun t ht => by simp at ht⟩ (fun t ht => by simp at ht)
  unfold spec_ReadGround.f
  rw [h0]
  simp only [spec_ReadGround.j1]
  rw [if_pos (by omega), tx_size, if_pos (by omega), hx, specNums_is p0 (by omega) K (by omega), bind_some_, h1]
  refine ⟨_, rfl, ?_, fun ds h2 hh ht => ?_⟩
  · unfold chkG
    split
    · exact Or.inl rfl
    · split
      · rename_i c1
        split
        · rename_i c2
          exact Or.inr ⟨_, _, rfl, c1, c2⟩
        · exact Or.inl rfl
      · exact Or.inl rfl
  · have hv := grOk_vals hh
    have hp := groundT_parts ds h2
    rw [ht, e] at hp
    simp only [List.cons.injEq] at hp
    obtain ⟨b0, b1⟩ := hp
    rw [b0, b1, numsOf_list 44 rfl (by decide) ds (fun v hm => by have := hv.dv v hm; omega), specHoles_text h2 [] (by simp only [List.length_nil]; have := hv.hn.2; omega) (fun h hm => by
      have := hv.hv h hm
      exact ⟨fun z => by have h1 := hv.dn.1; rw [← this.2.1, z] at h1; simp at h1, numsOf_hb (by omega) (fun v hm2 => by have := this.2.2 v hm2; omega)⟩), List.nil_append]
    unfold chkG
    dsimp only
    rw [if_pos hh, if_pos ht]

end Go.Proofs.YtgfpbiaocokdeaaDoor.P
/- A row whose library variables are laid, proved by a contract that is handed the laid ones and the world's shape. -/
namespace Go.Proofs.YtgfpbiaocokdeaaDoor.P
open Go.RowKit Go.Proofs.YtgfpbiaocokdeaaDoor.P Go.Proofs.YtgfpbiaocokdeaaDoorW.PrintWords Go.Proofs.YtgfpbiaocokdeaaDoorW.PrintLast Go.Proofs.YtgfpbiaocokdeaaDoorW.PrintMore
set_option linter.unusedVariables false
set_option linter.unusedSimpArgs false
theorem hold_handed {H : Type} {enc : TypeId × Value → H} {a : Assume} {C : Checked} {os : Os} {f : FuncId} {fn : Func} {s : ChangeSpec} {conds : List PathCond} {apart fresh handsOn again : Bool} {X : World → Array Value → Prop}
    (hX : ∀ (w w' : World) (args : Array Value), w.heap = w'.heap → X w args → X w' args)
    (own : ownKnob C.prog.godebug = none) (started : os.Started) (noInit : C.prog.inits.idxOf? f = none) (hfn : C.prog.funcs[f]? = some fn)
    (witness : ∃ (w : World) (tape : Tape) (i : Input), w.os = os ∧ (w.forCall tape i).Shaped C.prog ∧ i.vars = [] ∧ Input.okWide C.prog (w.forCall tape i) .any w.heap.size f i ∧
      ((s.pre enc C.prog fn conds apart (w.forCall tape i).memory i.args ∧ X (w.forCall tape i).memory i.args) ∧ sizedMet enc C.prog fn (OpenSpec.ofChange s) apart (w.forCall tape i).memory i.args) ∧ a.holds C.prog (lone (Frame.enter C.prog f i.args .normal) [] (w.forCall tape i)))
    (contract : ∀ (W : World) (base : Nat) (args : Array Value) (ds gs : List (DataW H)) (before : List MemPlace),
      (∀ (j : Nat) t v, fn.params[j]? = some t → args[j]? = some v → Value.okWide C.prog W .any base t v) →
      DataW.Whole enc C.prog fn.params.toList s.vars apart W args.toList ds gs before →
      conds.all (PathCond.test C.prog ⟨fn.params.toList, ds, s.plain.varTypes C.prog, gs⟩) = true →
      (DataW.weightsEach C.prog (fn.params.toList ++ s.plain.varTypes C.prog) (ds ++ gs)).all (· ≤ reachBytes) = true →
      W.ShapedOpen C.prog ∧ X W args →
      Calls C.prog f args W fun e W' => ∃ v, e = .returned v ∧ s.post enc C.prog fn apart fresh handsOn again W args v W') :
    ReturnsInHanded a C os f .any (fun w args => (s.pre enc C.prog fn conds apart w args ∧ X w args) ∧ sizedMet enc C.prog fn (OpenSpec.ofChange s) apart w args) (s.post enc C.prog fn apart fresh handsOn again) := by
  refine returnsInHanded_of_calls own started noInit witness ?_
  intro w tape i _ hsh _ hok hpre _
  obtain ⟨_, _, _, fn', hfn', _, _, _, _, hval⟩ := hok
  obtain rfl : fn' = fn := Option.some.inj (hfn'.symm.trans hfn)
  obtain ⟨⟨⟨ds, gs, before, hw, hc⟩, hx⟩, hz⟩ := hpre
  refine (contract (w.forCall tape i) w.heap.size i.args ds gs before hval (DataW.Whole.of_heap (w' := w.forCall tape i) (by rfl) hw) hc (hz.weights hw) ⟨hsh, hX _ _ _ (by rfl) hx⟩).mono fun e W' ⟨v, he, hp⟩ => ?_
  subst he
  exact ChangeSpec.post_blind hp

end Go.Proofs.YtgfpbiaocokdeaaDoor.P
