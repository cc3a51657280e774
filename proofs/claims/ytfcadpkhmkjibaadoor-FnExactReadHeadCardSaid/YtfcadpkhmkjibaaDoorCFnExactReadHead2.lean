/- What the claim of FnExactReadHead bears, part 2: functions of the program as plain Lean functions, with proofs that the code comes to their answers, and lemmas on them. -/
import Derived.Test.YtfcadpkhmkjibaaDoorCFnExactReadHead0
import Derived.Test.YtfcadpkhmkjibaaDoorCFnExactReadHead1
set_option linter.unusedVariables false
set_option linter.unusedSimpArgs false
namespace Go.Proofs.YtfcadpkhmkjibaaDoor.P
open Go.RowKit Go.Proofs.YtfcadpkhmkjibaaDoorW.PrintWords Go.Proofs.YtfcadpkhmkjibaaDoorW.PrintLast Go.Proofs.YtfcadpkhmkjibaaDoorW.PrintMore
attribute [local go_sem] max2_int min2_int max_two min_two max_three min_three max_four min_four   -- for this text's walks alone

def spec_ReadHead.l0 : Nat → ByteArray → List Int → Int → List (S77) → List Int → List Int → Int → Int → Option ((List (S77)) × List Int × List Int × Int × Int × Bool)
 | 0, _, _, _, _, _, _, _, _ => none
 | k + 1, x0, x5, x8, x447000, x447001, x447002, x447003, x447004 => if (wrap64 (x8 + 1)) < (x5.length : Int) then (if 0 ≤ x8 then (if x8 < (x5.length : Int) then (if 0 ≤ (wrap64 (x8 + 1)) then (if x447000.length < 8796093022208 then (spec_ReadHead.l0 k x0 x5 (wrap64 (x8 + 2)) (x447000 ++ [(⟨rd x5 x8, rd x5 (wrap64 (x8 + 1))⟩ : S77)]) x447001 x447002 x447003 x447004) else (none)) else (none)) else (none)) else (none)) else ((spec_l08Is.f k x447000 x447001 x447002 x447003 x447004).bind fun t452 => (if t452 = true then ((spec_l08Text.f k x447000 x447001 x447002 x447003 x447004).bind fun t453 => (if t453.toList = x0.toList then (some (x447000, x447001, x447002, x447003, x447004, true)) else (some (([] : List (S77)), ([] : List Int), ([] : List Int), 0, 0, false)))) else (some (([] : List (S77)), ([] : List Int), ([] : List Int), 0, 0, false))))
def spec_ReadHead.f (k : Nat) (a0 : ByteArray) : Option ((List (S77)) × List Int × List Int × Int × Int × Bool) := (spec_l08Split.f k a0 124).bind fun t422 => (if (t422.length : Int) = 4 then (if 0 < (t422.length : Int) then ((spec_l02Numbers.f k (rdOf ByteArray.empty t422 0)).bind fun t426 => (if 3 < (t422.length : Int) then ((spec_l02Numbers.f k (rdOf ByteArray.empty t422 3)).bind fun t430 => (if (t430.length : Int) = 2 then (if 1 < (t422.length : Int) then ((spec_l02Numbers.f k (rdOf ByteArray.empty t422 1)).bind fun t437 => (if 2 < (t422.length : Int) then ((spec_l02Numbers.f k (rdOf ByteArray.empty t422 2)).bind fun t441 => (if 0 < (t430.length : Int) then (if 1 < (t430.length : Int) then (spec_ReadHead.l0 k a0 t426 0 (([] : List (S77))) t437 t441 (rd t430 0) (rd t430 1)) else (none)) else (none))) else (none))) else (none)) else (some (([] : List (S77)), ([] : List Int), ([] : List Int), 0, 0, false)))) else (none))) else (none)) else (some (([] : List (S77)), ([] : List Int), ([] : List Int), 0, 0, false)))
def spec_ReadHead.T8 : Bool × List (List Nat × List Nat) := (true, [([], []), ([], []), ([1], [1]), ([2], [2]), ([3], [3]), ([], []), ([5], [5]), ([6], [6]), ([7, 4], [7]), ([], []), ([9], [9]), ([10], [10]), ([], []), ([12], [12]), ([13], [13]), ([0, 4, 8, 11, 14], [0, 4, 8, 11, 14]), ([], []), ([16, 15, 8, 0, 1, 2, 3, 4, 5, 6, 7, 8, 9, 10, 11, 12, 13, 14, 15, 16], [15, 16])])
def spec_ReadHead.B8 : List Nat := [0, 0, 2, 6, 14, 0, 32, 96, 254, 0, 512, 1536, 0, 4096, 12288, 32767, 0, 131071]
theorem spec_ReadHead.tab8 : rtab .any (opsOf Tryd.f17 8) = spec_ReadHead.T8 := by kernel_rfl
theorem spec_ReadHead.bits8 : waitsOk spec_ReadHead.T8.2 spec_ReadHead.B8 = true := by kernel_rfl
def spec_ReadHead.T12 : Bool × List (List Nat × List Nat) := (true, [([], []), ([0], [0]), ([], []), ([], []), ([2, 3], [2, 3]), ([4], [4]), ([], []), ([], []), ([7], [7]), ([6, 8], [6, 8]), ([9], [9]), ([5, 10], [5, 10]), ([11], [11]), ([1, 12], [1, 12]), ([0, 1, 2, 3, 4, 5, 6, 7, 8, 9, 10, 11, 12, 13], []), ([14, 13, 13, 0, 1, 2, 3, 4, 5, 6, 7, 8, 9, 10, 11, 12, 13], [13, 14])])
def spec_ReadHead.B12 : List Nat := [0, 1, 0, 0, 12, 28, 0, 0, 128, 448, 960, 2044, 4092, 8191, 16383, 32767]
theorem spec_ReadHead.tab12 : rtab .any (opsOf Tryd.f17 12) = spec_ReadHead.T12 := by kernel_rfl
theorem spec_ReadHead.bits12 : waitsOk spec_ReadHead.T12.2 spec_ReadHead.B12 = true := by kernel_rfl
abbrev m17_0 : Array Bool := #[false, false, false, false, false, false, false, false, false, false, false, false, false, false, false, false, false, false]
abbrev m17_1 : Array Bool := #[false, true, false, false, false, false, false, false, false, false, false, false, false, false, false, false, false, false]
abbrev m17_2 : Array Bool := #[false, true, true, false, false, false, false, false, false, false, false, false, false, false, false, false, false, false]
abbrev m17_3 : Array Bool := #[false, true, true, false, false, true, false, false, false, false, false, false, false, false, false, false, false, false]
abbrev m17_4 : Array Bool := #[false, true, true, false, false, true, true, false, false, false, false, false, false, false, false, false, false, false]
abbrev m17_5 : Array Bool := #[false, true, true, false, false, true, true, false, false, true, false, false, false, false, false, false, false, false]
abbrev m17_6 : Array Bool := #[false, true, true, false, false, true, true, false, false, true, true, false, false, false, false, false, false, false]
abbrev m17_7 : Array Bool := #[false, true, true, false, false, true, true, false, false, true, true, false, true, false, false, false, false, false]
abbrev m17_8 : Array Bool := #[false, true, true, false, false, true, true, false, false, true, true, false, true, true, false, false, false, false]
abbrev m17_9 : Array Bool := #[false, true, true, true, false, true, true, false, false, true, true, false, true, true, false, false, false, false]
abbrev m17_10 : Array Bool := #[false, true, true, true, false, true, true, true, false, true, true, false, true, true, false, false, false, false]
abbrev m17_11 : Array Bool := #[false, true, true, true, false, true, true, true, false, true, true, true, true, true, false, false, false, false]
abbrev m17_12 : Array Bool := #[false, true, true, true, false, true, true, true, false, true, true, true, true, true, true, false, false, false]
abbrev m17_13 : Array Bool := #[true, true, true, true, true, true, true, true, true, true, true, true, true, true, true, true, true, false]
abbrev m17_14 : Array Bool := #[true, true, true, true, true, true, true, true, true, true, true, true, true, true, true, true, false, false]
abbrev m17_15 : Array Bool := #[true, true, true, true, true, true, true, true, false, true, true, true, true, true, true, false, true, false]
abbrev m17_16 : Array Bool := #[false, true, true, true, true, true, true, true, true, true, true, true, true, true, true, false, true, false]
abbrev m17_17 : Array Bool := #[true, true, true, true, true, true, true, true, false, true, true, true, true, true, true, false, false, false]
abbrev m17_18 : Array Bool := #[true, true, true, true, false, true, true, true, false, true, true, true, true, true, true, false, true, false]
abbrev m17_19 : Array Bool := #[false, true, true, true, true, true, true, true, true, true, true, true, true, true, true, false, false, false]
abbrev m17_20 : Array Bool := #[false, true, true, true, true, true, true, true, false, true, true, true, true, true, true, false, true, false]
abbrev m17_21 : Array Bool := #[true, true, true, true, false, true, true, true, false, true, true, true, true, true, true, false, false, false]
abbrev m17_22 : Array Bool := #[false, true, true, true, true, true, true, true, false, true, true, true, true, true, true, false, false, false]
abbrev m17_23 : Array Bool := #[false, true, true, true, false, true, true, true, false, true, true, true, true, true, true, false, true, false]
abbrev m17_24 : Array Bool := #[true, true, true, true, true, true, true, true, true, true, true, true, true, true, true, false, false, false]
abbrev m17_25 : Array Bool := #[true, true, true, true, true, true, true, true, true, true, true, true, true, true, true, false, true, false]
abbrev m17_26 : Array Bool := #[true, true, true, true, true, true, true, true, true, true, true, true, true, true, true, true, true, true]
abbrev m17_27 : Array Bool := #[false, false, false, false, false, false, false, false, false, false, false, false, false, false, false, false]
abbrev m17_28 : Array Bool := #[true, false, false, false, false, false, false, false, false, false, false, false, false, false, false, false]
abbrev m17_29 : Array Bool := #[true, false, true, false, false, false, false, false, false, false, false, false, false, false, false, false]
abbrev m17_30 : Array Bool := #[true, false, true, true, false, false, false, false, false, false, false, false, false, false, false, false]
abbrev m17_31 : Array Bool := #[true, false, true, true, true, false, false, false, false, false, false, false, false, false, false, false]
abbrev m17_32 : Array Bool := #[true, false, true, true, true, false, true, false, false, false, false, false, false, false, false, false]
abbrev m17_33 : Array Bool := #[true, false, true, true, true, false, true, true, false, false, false, false, false, false, false, false]
abbrev m17_34 : Array Bool := #[true, false, true, true, true, false, true, true, true, false, false, false, false, false, false, false]
abbrev m17_35 : Array Bool := #[true, false, true, true, true, false, true, true, true, true, false, false, false, false, false, false]
abbrev m17_36 : Array Bool := #[true, true, true, true, true, false, true, true, true, true, false, false, false, false, false, false]
abbrev m17_37 : Array Bool := #[true, true, true, true, true, true, true, true, true, true, false, false, false, false, false, false]
abbrev m17_38 : Array Bool := #[true, true, true, true, true, true, true, true, true, true, true, false, false, false, false, false]
abbrev m17_39 : Array Bool := #[true, true, true, true, true, true, true, true, true, true, true, true, false, false, false, false]
abbrev m17_40 : Array Bool := #[true, true, true, true, true, true, true, true, true, true, true, true, true, false, false, false]
abbrev m17_41 : Array Bool := #[true, true, true, true, true, true, true, true, true, true, true, true, true, true, false, false]
abbrev m17_42 : Array Bool := #[true, true, true, true, true, true, true, true, true, true, true, true, true, true, true, false]
abbrev m17_43 : Array Bool := #[true, true, true, true, true, true, true, true, true, true, true, true, true, true, true, true]
set_option maxHeartbeats 8000000 in
set_option maxRecDepth 100000 in
theorem spec_ReadHead.calls (k : Nat) (a0 : ByteArray) (r1 : List (S77)) (r2 : List Int) (r3 : List Int) (r4 : Int) (r5 : Int) (r6 : Bool) (w : World) (h : spec_ReadHead.f k a0 = some (r1, r2, r3, r4, r5, r6)) :
  Calls Tryd.prog 17 #[.string a0] w fun e w' => ∃ v0_ v1_ v2_ : Value, e = .returned (.tuple #[.agg #[v0_, v1_, v2_, .int .i64 r4, .int .i64 r5], .bool r6]) ∧ Kd.R k77 77 w' w.heap.size (fun _ => True) v0_ r1 ∧ Kd.R (Kd.int .i64) 2 w' w.heap.size (fun k_ => some k_ ≠ (v2_ : Value).ownBlock) v1_ r2 ∧ Kd.R (Kd.int .i64) 2 w' w.heap.size (fun k_ => some k_ ≠ (v1_ : Value).ownBlock) v2_ r3 ∧ Below w.heap.size w w' := by
 have hu31 := Tryd.underlying31
 have hu77 := Tryd.underlying77
 have HB := Aside0.mk (Below.refl w.heap.size w)
 have H : ((spec_l08Split.f k a0 124).bind fun t422 => (if (t422.length : Int) = 4 then (if 0 < (t422.length : Int) then ((spec_l02Numbers.f k (rdOf ByteArray.empty t422 0)).bind fun t426 => (if 3 < (t422.length : Int) then ((spec_l02Numbers.f k (rdOf ByteArray.empty t422 3)).bind fun t430 => (if (t430.length : Int) = 2 then (if 1 < (t422.length : Int) then ((spec_l02Numbers.f k (rdOf ByteArray.empty t422 1)).bind fun t437 => (if 2 < (t422.length : Int) then ((spec_l02Numbers.f k (rdOf ByteArray.empty t422 2)).bind fun t441 => (if 0 < (t430.length : Int) then (if 1 < (t430.length : Int) then (spec_ReadHead.l0 k a0 t426 0 (([] : List (S77))) t437 t441 (rd t430 0) (rd t430 1)) else (none)) else (none))) else (none))) else (none)) else (some (([] : List (S77)), ([] : List Int), ([] : List Int), 0, 0, false)))) else (none))) else (none)) else (some (([] : List (S77)), ([] : List Int), ([] : List Int), 0, 0, false)))) = some (r1, r2, r3, r4, r5, r6) := h
 clear h
 replace H := Option.bind_eq_some_iff.mp H
 obtain ⟨t422, A20, H⟩ := H
 replace H : (if (t422.length : Int) = 4 then (if 0 < (t422.length : Int) then ((spec_l02Numbers.f k (rdOf ByteArray.empty t422 0)).bind fun t426 => (if 3 < (t422.length : Int) then ((spec_l02Numbers.f k (rdOf ByteArray.empty t422 3)).bind fun t430 => (if (t430.length : Int) = 2 then (if 1 < (t422.length : Int) then ((spec_l02Numbers.f k (rdOf ByteArray.empty t422 1)).bind fun t437 => (if 2 < (t422.length : Int) then ((spec_l02Numbers.f k (rdOf ByteArray.empty t422 2)).bind fun t441 => (if 0 < (t430.length : Int) then (if 1 < (t430.length : Int) then (spec_ReadHead.l0 k a0 t426 0 (([] : List (S77))) t437 t441 (rd t430 0) (rd t430 1)) else (none)) else (none))) else (none))) else (none)) else (some (([] : List (S77)), ([] : List Int), ([] : List Int), 0, 0, false)))) else (none))) else (none)) else (some (([] : List (S77)), ([] : List Int), ([] : List Int), 0, 0, false))) = some (r1, r2, r3, r4, r5, r6) := H
 have A2 := Aside0.mk A20
 clear A20
 by_cases c3 : (t422.length : Int) = 4
 ·rw [if_pos c3] at H
  have c3b0 : ((t422.length : Int) == 4) = true := beq_iff_eq.mpr c3
  have c3b1 : ((t422.length : Int) != 4) = false := bne_eq_false_iff_eq.mpr c3
  clear c3
  by_cases c4 : 0 < (t422.length : Int)
  ·rw [if_pos c4] at H
   have c4b0 : decide (0 < (t422.length : Int)) = true := decide_eq_true c4
   have c4b1 : decide (0 < t422.length) = true := decide_eq_true (by omega)
   clear c4
   replace H := Option.bind_eq_some_iff.mp H
   obtain ⟨t426, A50, H⟩ := H
   replace H : (if 3 < (t422.length : Int) then ((spec_l02Numbers.f k (rdOf ByteArray.empty t422 3)).bind fun t430 => (if (t430.length : Int) = 2 then (if 1 < (t422.length : Int) then ((spec_l02Numbers.f k (rdOf ByteArray.empty t422 1)).bind fun t437 => (if 2 < (t422.length : Int) then ((spec_l02Numbers.f k (rdOf ByteArray.empty t422 2)).bind fun t441 => (if 0 < (t430.length : Int) then (if 1 < (t430.length : Int) then (spec_ReadHead.l0 k a0 t426 0 (([] : List (S77))) t437 t441 (rd t430 0) (rd t430 1)) else (none)) else (none))) else (none))) else (none)) else (some (([] : List (S77)), ([] : List Int), ([] : List Int), 0, 0, false)))) else (none)) = some (r1, r2, r3, r4, r5, r6) := H
   have A5 := Aside0.mk A50
   clear A50
   by_cases c6 : 3 < (t422.length : Int)
   ·rw [if_pos c6] at H
    have c6b0 : decide (3 < (t422.length : Int)) = true := decide_eq_true c6
    have c6b1 : decide (3 < t422.length) = true := decide_eq_true (by omega)
    clear c6
    replace H := Option.bind_eq_some_iff.mp H
    obtain ⟨t430, A70, H⟩ := H
    replace H : (if (t430.length : Int) = 2 then (if 1 < (t422.length : Int) then ((spec_l02Numbers.f k (rdOf ByteArray.empty t422 1)).bind fun t437 => (if 2 < (t422.length : Int) then ((spec_l02Numbers.f k (rdOf ByteArray.empty t422 2)).bind fun t441 => (if 0 < (t430.length : Int) then (if 1 < (t430.length : Int) then (spec_ReadHead.l0 k a0 t426 0 (([] : List (S77))) t437 t441 (rd t430 0) (rd t430 1)) else (none)) else (none))) else (none))) else (none)) else (some (([] : List (S77)), ([] : List Int), ([] : List Int), 0, 0, false))) = some (r1, r2, r3, r4, r5, r6) := H
    have A7 := Aside0.mk A70
    clear A70
    by_cases c8 : (t430.length : Int) = 2
    ·rw [if_pos c8] at H
     have c8b0 : ((t430.length : Int) == 2) = true := beq_iff_eq.mpr c8
     have c8b1 : ((t430.length : Int) != 2) = false := bne_eq_false_iff_eq.mpr c8
     clear c8
     obtain ⟨y433, hy433⟩ : ∃ y_ : List (S77), y_ = (([] : List (S77))) := ⟨_, rfl⟩
     replace H : (if 1 < (t422.length : Int) then ((spec_l02Numbers.f k (rdOf ByteArray.empty t422 1)).bind fun t437 => (if 2 < (t422.length : Int) then ((spec_l02Numbers.f k (rdOf ByteArray.empty t422 2)).bind fun t441 => (if 0 < (t430.length : Int) then (if 1 < (t430.length : Int) then (spec_ReadHead.l0 k a0 t426 0 y433 t437 t441 (rd t430 0) (rd t430 1)) else (none)) else (none))) else (none))) else (none)) = some (r1, r2, r3, r4, r5, r6) := by first | (rw [hy433]; with_reducible exact H) | (have H2_ := (Option.bind_some _ _).symm.trans H; rw [hy433]; with_reducible exact H2_) | (have H2_ := (Option.bind_some _ _).symm.trans H; with_reducible exact H2_) | with_reducible exact H | (rw [hy433]; exact H) | exact H
     have Ny433 := Aside0.mk hy433
     clear hy433
     by_cases c9 : 1 < (t422.length : Int)
     ·rw [if_pos c9] at H
      have c9b0 : decide (1 < (t422.length : Int)) = true := decide_eq_true c9
      have c9b1 : decide (1 < t422.length) = true := decide_eq_true (by omega)
      clear c9
      replace H := Option.bind_eq_some_iff.mp H
      obtain ⟨t437, A100, H⟩ := H
      replace H : (if 2 < (t422.length : Int) then ((spec_l02Numbers.f k (rdOf ByteArray.empty t422 2)).bind fun t441 => (if 0 < (t430.length : Int) then (if 1 < (t430.length : Int) then (spec_ReadHead.l0 k a0 t426 0 y433 t437 t441 (rd t430 0) (rd t430 1)) else (none)) else (none))) else (none)) = some (r1, r2, r3, r4, r5, r6) := H
      have A10 := Aside0.mk A100
      clear A100
      by_cases c11 : 2 < (t422.length : Int)
      ·rw [if_pos c11] at H
       have c11b0 : decide (2 < (t422.length : Int)) = true := decide_eq_true c11
       have c11b1 : decide (2 < t422.length) = true := decide_eq_true (by omega)
       clear c11
       replace H := Option.bind_eq_some_iff.mp H
       obtain ⟨t441, A120, H⟩ := H
       replace H : (if 0 < (t430.length : Int) then (if 1 < (t430.length : Int) then (spec_ReadHead.l0 k a0 t426 0 y433 t437 t441 (rd t430 0) (rd t430 1)) else (none)) else (none)) = some (r1, r2, r3, r4, r5, r6) := H
       have A12 := Aside0.mk A120
       clear A120
       by_cases c13 : 0 < (t430.length : Int)
       ·rw [if_pos c13] at H
        have c13b0 : decide (0 < (t430.length : Int)) = true := decide_eq_true c13
        have c13b1 : decide (0 < t430.length) = true := decide_eq_true (by omega)
        clear c13
        by_cases c14 : 1 < (t430.length : Int)
        ·rw [if_pos c14] at H
         have c14b0 : decide (1 < (t430.length : Int)) = true := decide_eq_true c14
         have c14b1 : decide (1 < t430.length) = true := decide_eq_true (by omega)
         clear c14
         have H' := Aside0.mk H
         clear H
         go_enter Tryd.func17, Tryd.ntmps17
         try go_wp2_with (first | ((with_reducible refine gate_dst (N := 2) rfl ?_); refine box_event ?hg (N := 2) ?hd (cs := #[.slice none 0 0, .slice none 0 0, .slice none 0 0, .int .i64 0, .int .i64 0]) (t := 31) ?hr ?_; (case hd => rfl); (case hg => rfl); (case hr => first | (go_simp; done) | (go_simp; rfl)); intro gb421 hg w15 hbox hb; have n0_ := Aside0.mk (below_step (by repeat (first | (with_reducible first | exact HB.out | apply below_alloc | apply pw_below_drewN | apply below_drew1) | exact HB.out)) hb); have n1_ := Aside0.mk (hbox); have n2_ := Aside0.mk ((by rw [hg]; exact (below_size (by repeat (first | (with_reducible first | exact HB.out | apply below_alloc | apply pw_below_drewN | apply below_drew1) | exact HB.out))) : w.heap.size ≤ gb421)); have n3_ := Aside0.mk ((by rw [hg]; exact (below_size (by repeat (first | (with_reducible first | exact HB.out | apply below_alloc | apply pw_below_drewN | apply below_drew1) | exact HB.out))) : w.heap.size ≤ gb421)); clear HB; have HB := n0_; have BK421 := n1_; have GW421 := n2_; have GE421 := n3_; clear n0_ n1_ n2_ n3_; clear hb hbox hg) | ((with_reducible refine gate_callee (f := 44) rfl ?_); refine goesL_ (some 10) rfl rfl Tryd.func44 (by kernel_rfl) rfl #[.string a0, .int .u8 124] rfl (by (try simp only [List.map_toArray, List.map_cons, List.map_nil]); first | done | rfl) ?_; (with_reducible refine (spec_l08Split.calls k a0 124 t422 _ A2.out).mono ?_); rintro e w16 ⟨v423, rfl, ho0, hb⟩; refine ⟨_, rfl, ?_⟩; have n0_ := Aside0.mk (Kd.R_lower ho0 (below_size (by repeat (first | (with_reducible first | exact HB.out | apply below_alloc | apply pw_below_drewN | apply below_drew1 | refine below_set ?_ GE421.out) | exact HB.out)))); have n1_ := Aside0.mk (blk_below (g := gb421) (o := .cells #[.slice none 0 0, .slice none 0 0, .slice none 0 0, .int .i64 0, .int .i64 0] 31 (0, 0)) (by (with_reducible repeat (first | refine blk_drewN ?_ _ | refine blk_drew ?_ | refine blk_alloc ?_ _)); exact BK421.out) hb); have n2_ := Aside0.mk (below_step (by repeat (first | (with_reducible first | exact HB.out | apply below_alloc | apply pw_below_drewN | apply below_drew1 | refine below_set ?_ GE421.out) | exact HB.out)) hb); clear BK421; clear HB; have HO424 := n0_; have BK421 := n1_; have HB := n2_; clear n0_ n1_ n2_; (try clear hb); (try clear hb2); (try clear hk); (try clear hi); (try clear ho0); obtain ⟨Ao17, co17, eo17⟩ := Kd.R_slice HO424.out; subst eo17; have p425 : 0 ≤ (0 : Int) := (by omega); have q425 : 0 < (t422.length : Int) := of_decide_eq_true (by assumption); obtain ⟨ad425, e425, hx425_0⟩ := Kd.at_string (Kd.R_reads' HO424.out).2.2 0 p425 q425; cases e425; have qi425 : (0 < t422.length) = True := eq_true (by omega); (try rw [show ((0 : Int)).toNat = 0 from rfl] at hx425_0); (try rw [Addr.add_zero'] at hx425_0); replace p425 := eq_true p425; replace q425 := eq_true q425) | ((with_reducible refine gate_callee (f := 45) rfl ?_); refine goesL_ (some 18) rfl rfl Tryd.func45 (by kernel_rfl) rfl #[.string (rdOf ByteArray.empty t422 0)] rfl (by (try simp only [List.map_toArray, List.map_cons, List.map_nil]); first | done | rfl) ?_; (with_reducible refine (spec_l02Numbers.calls k (rdOf ByteArray.empty t422 0) t426 _ A5.out).mono ?_); rintro e w18 ⟨v427, rfl, ho0, hb⟩; refine ⟨_, rfl, ?_⟩; have n0_ := Aside0.mk (Kd.R_below (by (with_reducible repeat (first | apply Kd.R_alloc | apply Kd.R_drewN | apply Kd.R_drew)); exact HO424.out) hb); have n1_ := Aside0.mk (Kd.R_lower ho0 (below_size (by repeat (first | (with_reducible first | exact HB.out | apply below_alloc | apply pw_below_drewN | apply below_drew1 | refine below_set ?_ GE421.out) | exact HB.out)))); have n2_ := Aside0.mk (blk_below (g := gb421) (o := .cells #[.slice none 0 0, .slice none 0 0, .slice none 0 0, .int .i64 0, .int .i64 0] 31 (0, 0)) (by (with_reducible repeat (first | refine blk_drewN ?_ _ | refine blk_drew ?_ | refine blk_alloc ?_ _)); exact BK421.out) hb); have n3_ := Aside0.mk (below_step (by repeat (first | (with_reducible first | exact HB.out | apply below_alloc | apply pw_below_drewN | apply below_drew1 | refine below_set ?_ GE421.out) | exact HB.out)) hb); clear HO424; clear BK421; clear HB; have HO424 := n0_; have HO428 := n1_; have BK421 := n2_; have HB := n3_; clear n0_ n1_ n2_ n3_; (try clear hb); (try clear hb2); (try clear hk); (try clear hi); (try clear ho0); have p429 : 0 ≤ (3 : Int) := (by omega); have q429 : 3 < (t422.length : Int) := of_decide_eq_true (by assumption); obtain ⟨ad429, e429, hx429_0⟩ := Kd.at_string (Kd.R_reads' HO424.out).2.2 3 p429 q429; obtain rfl : ad425 = ad429 := (by injection e429); (try simp only [show (3 : Int).toNat = 3 from rfl, Nat.reduceMul, Nat.reduceEqDiff, Go.Addr.add, ↓reduceIte] at hx429_0); have qi429 : (3 < t422.length) = True := eq_true (by omega); (try rw [show ((3 : Int)).toNat = 3 from rfl] at hx429_0); replace p429 := eq_true p429; replace q429 := eq_true q429) | ((with_reducible refine gate_callee (f := 45) rfl ?_); refine goesL_ (some 22) rfl rfl Tryd.func45 (by kernel_rfl) rfl #[.string (rdOf ByteArray.empty t422 3)] rfl (by (try simp only [List.map_toArray, List.map_cons, List.map_nil]); first | done | rfl) ?_; (with_reducible refine (spec_l02Numbers.calls k (rdOf ByteArray.empty t422 3) t430 _ A7.out).mono ?_); rintro e w19 ⟨v431, rfl, ho0, hb⟩; refine ⟨_, rfl, ?_⟩; have n0_ := Aside0.mk (Kd.R_below (by (with_reducible repeat (first | apply Kd.R_alloc | apply Kd.R_drewN | apply Kd.R_drew)); exact HO424.out) hb); have n1_ := Aside0.mk (Kd.R_elder' (by (with_reducible repeat (first | apply Kd.R_alloc | apply Kd.R_drewN | apply Kd.R_drew)); exact HO428.out) (Kd.R_base ho0) hb); have n2_ := Aside0.mk (Kd.R_lower (Kd.R_new' ho0 (Kd.R_lt (by (with_reducible repeat (first | apply Kd.R_alloc | apply Kd.R_drewN | apply Kd.R_drew)); exact HO428.out))) (below_size (by repeat (first | (with_reducible first | exact HB.out | apply below_alloc | apply pw_below_drewN | apply below_drew1 | refine below_set ?_ GE421.out) | exact HB.out)))); have n3_ := Aside0.mk (blk_below (g := gb421) (o := .cells #[.slice none 0 0, .slice none 0 0, .slice none 0 0, .int .i64 0, .int .i64 0] 31 (0, 0)) (by (with_reducible repeat (first | refine blk_drewN ?_ _ | refine blk_drew ?_ | refine blk_alloc ?_ _)); exact BK421.out) hb); have n4_ := Aside0.mk (below_step (by repeat (first | (with_reducible first | exact HB.out | apply below_alloc | apply pw_below_drewN | apply below_drew1 | refine below_set ?_ GE421.out) | exact HB.out)) hb); clear HO424; clear HO428; clear BK421; clear HB; have HO424 := n0_; have HO428 := n1_; have HO432 := n2_; have BK421 := n3_; have HB := n4_; clear n0_ n1_ n2_ n3_ n4_; (try clear hb); (try clear hb2); (try clear hk); (try clear hi); (try clear ho0); obtain ⟨Ao20, co20, eo20⟩ := Kd.R_slice HO432.out; subst eo20))
         have n0_ := Aside0.mk (Kd.R_drew HO424.out)
         have n1_ := Aside0.mk (Kd.R_drew HO428.out)
         have n2_ := Aside0.mk (Kd.R_drew HO432.out)
         have n3_ := Aside0.mk (blk_drew BK421.out)
         have n4_ := Aside0.mk (below_drew1 HB.out)
         clear HO424
         clear HO428
         clear HO432
         clear BK421
         clear HB
         have HO424 := n0_
         have HO428 := n1_
         have HO432 := n2_
         have BK421 := n3_
         have HB := n4_
         clear n0_ n1_ n2_ n3_ n4_
         have p436 : 0 ≤ (1 : Int) := (by omega)
         have q436 : 1 < (t422.length : Int) := of_decide_eq_true (by assumption)
         obtain ⟨ad436, e436, hx436_0⟩ := Kd.at_string (Kd.R_reads' HO424.out).2.2 1 p436 q436
         obtain rfl : ad425 = ad436 := (by injection e436)
         (try simp only [show (1 : Int).toNat = 1 from rfl, Nat.reduceMul, Nat.reduceEqDiff, Go.Addr.add, ↓reduceIte] at hx436_0)
         have qi436 : (1 < t422.length) = True := eq_true (by omega)
         (try rw [show ((1 : Int)).toNat = 1 from rfl] at hx436_0)
         replace p436 := eq_true p436
         replace q436 := eq_true q436
         have p440 : 0 ≤ (2 : Int) := (by omega)
         have q440 : 2 < (t422.length : Int) := of_decide_eq_true (by assumption)
         obtain ⟨ad440, e440, hx440_0⟩ := Kd.at_string (Kd.R_reads' HO424.out).2.2 2 p440 q440
         obtain rfl : ad425 = ad440 := (by injection e440)
         (try simp only [show (2 : Int).toNat = 2 from rfl, Nat.reduceMul, Nat.reduceEqDiff, Go.Addr.add, ↓reduceIte] at hx440_0)
         have qi440 : (2 < t422.length) = True := eq_true (by omega)
         (try rw [show ((2 : Int)).toNat = 2 from rfl] at hx440_0)
         replace p440 := eq_true p440
         replace q440 := eq_true q440
         have p444 : 0 ≤ (0 : Int) := (by omega)
         have q444 : 0 < (t430.length : Int) := of_decide_eq_true (by assumption)
         obtain ⟨ad444, e444, hx444_0⟩ := Kd.at_int (Kd.R_reads' HO432.out).2.2 0 p444 q444
         cases e444
         have qi444 : (0 < t430.length) = True := eq_true (by omega)
         (try rw [show ((0 : Int)).toNat = 0 from rfl] at hx444_0)
         (try rw [Addr.add_zero'] at hx444_0)
         replace p444 := eq_true p444
         replace q444 := eq_true q444
         have p445 : 0 ≤ (1 : Int) := (by omega)
         have q445 : 1 < (t430.length : Int) := of_decide_eq_true (by assumption)
         obtain ⟨ad445, e445, hx445_0⟩ := Kd.at_int (Kd.R_reads' HO432.out).2.2 1 p445 q445
         obtain rfl : ad444 = ad445 := (by injection e445)
         (try simp only [show (1 : Int).toNat = 1 from rfl, Nat.reduceMul, Nat.reduceEqDiff, Go.Addr.add, ↓reduceIte] at hx445_0)
         have qi445 : (1 < t430.length) = True := eq_true (by omega)
         (try rw [show ((1 : Int)).toNat = 1 from rfl] at hx445_0)
         replace p445 := eq_true p445
         replace q445 := eq_true q445
         refine start_ (n := 18) (S := fun w' => w'.cell? ⟨ad425.block, ad425.off + 1, none⟩ = some (.string (rdOf ByteArray.empty t422 1)) ∧ w'.cell? ⟨ad425.block, ad425.off + 2, none⟩ = some (.string (rdOf ByteArray.empty t422 2)) ∧ w'.cell? ad444 = some (.int .i64 (rd t430 0)) ∧ w'.cell? ⟨ad444.block, ad444.off + 1, none⟩ = some (.int .i64 (rd t430 1))) (ds := []) m17_0 (by kernel_rfl) rfl rfl ⟨hx436_0, hx440_0, hx444_0, hx445_0⟩ (fun hHeld => ?_); refine with_tabW spec_ReadHead.tab8 spec_ReadHead.bits8 (fun HT_ HW_ => ?_)
         generalize w19.drew = w21 at HO424 HO428 HO432 BK421 HB hx436_0 hx440_0 hx444_0 hx445_0 hHeld ⊢
         refine pure_ (i := 1) (N := some 28) (v := ?_) (a' := ?_) m17_1 rfl rfl (any_of HT_.out (by kernel_rfl)) (fun _ _ _ h => h) (Or.inl ⟨by rfl, ?_⟩) ?_ ?_
         rotate_left
         ·intro w'
          go_simp
          with_reducible rfl
         rotate_left
         ·simp only [Act.put, qa_, qz_, qs_, i64_w, i32_w]
          rfl
         refine pure_ (i := 2) (N := some 29) (v := ?_) (a' := ?_) m17_2 rfl rfl (any_of HT_.out (by kernel_rfl)) (fun _ _ _ h => h) (Or.inl ⟨by rfl, ?_⟩) ?_ ?_
         rotate_left
         ·intro w'
          go_simp
          with_reducible rfl
         rotate_left
         ·simp only [Act.put, qa_, qz_, qs_, i64_w, i32_w]
          rfl
         refine pure_ (i := 5) (N := some 32) (v := ?_) (a' := ?_) m17_3 rfl rfl (any_of HT_.out (by kernel_rfl)) (fun _ _ _ h => h) (Or.inl ⟨by rfl, ?_⟩) ?_ ?_
         rotate_left
         ·intro w'
          go_simp
          with_reducible rfl
         rotate_left
         ·simp only [Act.put, qa_, qz_, qs_, i64_w, i32_w]
          rfl
         refine pure_ (i := 6) (N := some 33) (v := ?_) (a' := ?_) m17_4 rfl rfl (any_of HT_.out (by kernel_rfl)) (fun _ _ _ h => h) (Or.inl ⟨by rfl, ?_⟩) ?_ ?_
         rotate_left
         ·intro w'
          go_simp
          with_reducible rfl
         rotate_left
         ·simp only [Act.put, qa_, qz_, qs_, i64_w, i32_w]
          rfl
         refine pure_ (i := 9) (N := some 36) (v := ?_) (a' := ?_) m17_5 rfl rfl (any_of HT_.out (by kernel_rfl)) (fun _ _ _ h => h) (Or.inl ⟨by rfl, ?_⟩) ?_ ?_
         rotate_left
         ·intro w'
          go_simp
          with_reducible rfl
         rotate_left
         ·simp only [Act.put, qa_, qz_, qs_, i64_w, i32_w]
          rfl
         refine pure_ (i := 10) (N := some 37) (v := ?_) (a' := ?_) m17_6 rfl rfl (any_of HT_.out (by kernel_rfl)) (fun _ _ _ h => h) (Or.inl ⟨by rfl, ?_⟩) ?_ ?_
         rotate_left
         ·intro w'
          go_simp
          with_reducible rfl
         rotate_left
         ·simp only [Act.put, qa_, qz_, qs_, i64_w, i32_w]
          rfl
         refine pure_ (i := 12) (N := some 39) (v := ?_) (a' := ?_) m17_7 rfl rfl (any_of HT_.out (by kernel_rfl)) (fun _ _ _ h => h) (Or.inl ⟨by rfl, ?_⟩) ?_ ?_
         rotate_left
         ·intro w'
          go_simp
          with_reducible rfl
         rotate_left
         ·simp only [Act.put, qa_, qz_, qs_, i64_w, i32_w]
          rfl
         refine pure_ (i := 13) (N := some 40) (v := ?_) (a' := ?_) m17_8 rfl rfl (any_of HT_.out (by kernel_rfl)) (fun _ _ _ h => h) (Or.inl ⟨by rfl, ?_⟩) ?_ ?_
         rotate_left
         ·intro w'
          go_simp
          with_reducible rfl
         rotate_left
         ·simp only [Act.put, qa_, qz_, qs_, i64_w, i32_w]
          rfl
         refine take_ (i := 3) (N := some 30) (v := ?_) (a' := ?_) m17_9 rfl rfl (take_ofW HT_.out HW_.out (by kernel_rfl)) (fun _ _ _ h => h) (Or.inl ⟨by rfl, ?_⟩) hHeld ?_ ?_
         rotate_left
         ·rintro w' ⟨s0, s1, s2, s3⟩
          go_simp
          with_reducible rfl
         rotate_left
         ·simp only [Act.put, qa_, qz_, qs_, i64_w, i32_w]
          rfl
         refine take_ (i := 7) (N := some 34) (v := ?_) (a' := ?_) m17_10 rfl rfl (take_ofW HT_.out HW_.out (by kernel_rfl)) (fun _ _ _ h => h) (Or.inl ⟨by rfl, ?_⟩) hHeld ?_ ?_
         rotate_left
         ·rintro w' ⟨s0, s1, s2, s3⟩
          go_simp
          with_reducible rfl
         rotate_left
         ·simp only [Act.put, qa_, qz_, qs_, i64_w, i32_w]
          rfl
         refine take_ (i := 11) (N := some 38) (v := ?_) (a' := ?_) m17_11 rfl rfl (take_ofW HT_.out HW_.out (by kernel_rfl)) (fun _ _ _ h => h) (Or.inl ⟨by rfl, ?_⟩) hHeld ?_ ?_
         rotate_left
         ·rintro w' ⟨s0, s1, s2, s3⟩
          go_simp
          with_reducible rfl
         rotate_left
         ·simp only [Act.put, qa_, qz_, qs_, i64_w, i32_w]
          rfl
         refine take_ (i := 14) (N := some 41) (v := ?_) (a' := ?_) m17_12 rfl rfl (take_ofW HT_.out HW_.out (by kernel_rfl)) (fun _ _ _ h => h) (Or.inl ⟨by rfl, ?_⟩) hHeld ?_ ?_
         rotate_left
         ·rintro w' ⟨s0, s1, s2, s3⟩
          go_simp
          with_reducible rfl
         rotate_left
         ·simp only [Act.put, qa_, qz_, qs_, i64_w, i32_w]
          rfl
         refine join_ (σ := Value × Value × Value × Nat) 1 m17_13 (fun s_ => [(27, s_.1), (31, s_.2.1), (35, s_.2.2.1), (7, .pointer (some ⟨s_.2.2.2, 0, none⟩)), (42, .agg #[s_.1, s_.2.1, s_.2.2.1, .int .i64 (rd t430 0), .int .i64 (rd t430 1)])]) (fun s_ w' => (w'.cell? ⟨ad425.block, ad425.off + 1, none⟩ = some (.string (rdOf ByteArray.empty t422 1)) ∧ w'.cell? ⟨ad425.block, ad425.off + 2, none⟩ = some (.string (rdOf ByteArray.empty t422 2)) ∧ w'.cell? ad444 = some (.int .i64 (rd t430 0)) ∧ w'.cell? ⟨ad444.block, ad444.off + 1, none⟩ = some (.int .i64 (rd t430 1))) ∧ (Kd.R Kd.string 9 w' w.heap.size (fun _ => True) (.slice (some ad425) t422.length co17) t422) ∧ (Kd.R (Kd.int .i64) 2 w' w.heap.size (fun k_ => some k_ ≠ (.slice (some ad444) t430.length co20 : Value).ownBlock ∧ some k_ ≠ (s_.2.1 : Value).ownBlock ∧ some k_ ≠ (s_.2.2.1 : Value).ownBlock) v427 t426) ∧ (Kd.R (Kd.int .i64) 2 w' w.heap.size (fun k_ => some k_ ≠ (v427 : Value).ownBlock ∧ some k_ ≠ (s_.2.1 : Value).ownBlock ∧ some k_ ≠ (s_.2.2.1 : Value).ownBlock) (.slice (some ad444) t430.length co20) t430) ∧ (Kd.R k77 77 w' w.heap.size (fun _ => True) s_.1 y433) ∧ (Kd.R (Kd.int .i64) 2 w' w.heap.size (fun k_ => some k_ ≠ (v427 : Value).ownBlock ∧ some k_ ≠ (.slice (some ad444) t430.length co20 : Value).ownBlock ∧ some k_ ≠ (s_.2.2.1 : Value).ownBlock) s_.2.1 t437) ∧ (Kd.R (Kd.int .i64) 2 w' w.heap.size (fun k_ => some k_ ≠ (v427 : Value).ownBlock ∧ some k_ ≠ (.slice (some ad444) t430.length co20 : Value).ownBlock ∧ some k_ ≠ (s_.2.1 : Value).ownBlock) s_.2.2.1 t441) ∧ (w'.heap[gb421]? = some (.cells #[.slice none 0 0, .slice none 0 0, .slice none 0 0, .int .i64 0, .int .i64 0] 31 (0, 0))) ∧ (w'.heap[s_.2.2.2]? = some (.cells #[.slice none 0 0, .slice none 0 0, .slice none 0 0, .int .i64 0, .int .i64 0] 31 (0, 0))) ∧ (w.heap.size ≤ s_.2.2.2) ∧ (w.heap.size ≤ s_.2.2.2) ∧ (gb421 ≠ s_.2.2.2) ∧ (s_.2.2.2 ≠ gb421) ∧ (Below w.heap.size w w')) ?_ ?_
         rotate_left
         ·intro hJ0_4_8_16
          refine join_ (σ := Value × Value × Value) 2 m17_14 (fun s_ => [(27, s_.1), (31, s_.2.1), (35, s_.2.2), (42, .agg #[s_.1, s_.2.1, s_.2.2, .int .i64 (rd t430 0), .int .i64 (rd t430 1)])]) (fun s_ w' => (w'.cell? ⟨ad425.block, ad425.off + 1, none⟩ = some (.string (rdOf ByteArray.empty t422 1)) ∧ w'.cell? ⟨ad425.block, ad425.off + 2, none⟩ = some (.string (rdOf ByteArray.empty t422 2)) ∧ w'.cell? ad444 = some (.int .i64 (rd t430 0)) ∧ w'.cell? ⟨ad444.block, ad444.off + 1, none⟩ = some (.int .i64 (rd t430 1))) ∧ (Kd.R Kd.string 9 w' w.heap.size (fun _ => True) (.slice (some ad425) t422.length co17) t422) ∧ (Kd.R (Kd.int .i64) 2 w' w.heap.size (fun k_ => some k_ ≠ (.slice (some ad444) t430.length co20 : Value).ownBlock ∧ some k_ ≠ (s_.2.1 : Value).ownBlock ∧ some k_ ≠ (s_.2.2 : Value).ownBlock) v427 t426) ∧ (Kd.R (Kd.int .i64) 2 w' w.heap.size (fun k_ => some k_ ≠ (v427 : Value).ownBlock ∧ some k_ ≠ (s_.2.1 : Value).ownBlock ∧ some k_ ≠ (s_.2.2 : Value).ownBlock) (.slice (some ad444) t430.length co20) t430) ∧ (Kd.R k77 77 w' w.heap.size (fun _ => True) s_.1 y433) ∧ (Kd.R (Kd.int .i64) 2 w' w.heap.size (fun k_ => some k_ ≠ (v427 : Value).ownBlock ∧ some k_ ≠ (.slice (some ad444) t430.length co20 : Value).ownBlock ∧ some k_ ≠ (s_.2.2 : Value).ownBlock) s_.2.1 t437) ∧ (Kd.R (Kd.int .i64) 2 w' w.heap.size (fun k_ => some k_ ≠ (v427 : Value).ownBlock ∧ some k_ ≠ (.slice (some ad444) t430.length co20 : Value).ownBlock ∧ some k_ ≠ (s_.2.1 : Value).ownBlock) s_.2.2 t441) ∧ (w'.heap[gb421]? = some (.cells #[.slice none 0 0, .slice none 0 0, .slice none 0 0, .int .i64 0, .int .i64 0] 31 (0, 0))) ∧ (Below w.heap.size w w')) ?_ ?_
          rotate_left
          ·intro hJ0_4_8
           refine join_ (σ := Value × Value × Nat) 3 m17_15 (fun s_ => [(27, s_.1), (31, s_.2.1), (7, .pointer (some ⟨s_.2.2, 0, none⟩))]) (fun s_ w' => (w'.cell? ⟨ad425.block, ad425.off + 1, none⟩ = some (.string (rdOf ByteArray.empty t422 1)) ∧ w'.cell? ⟨ad425.block, ad425.off + 2, none⟩ = some (.string (rdOf ByteArray.empty t422 2)) ∧ w'.cell? ad444 = some (.int .i64 (rd t430 0)) ∧ w'.cell? ⟨ad444.block, ad444.off + 1, none⟩ = some (.int .i64 (rd t430 1))) ∧ (Kd.R Kd.string 9 w' w.heap.size (fun _ => True) (.slice (some ad425) t422.length co17) t422) ∧ (Kd.R (Kd.int .i64) 2 w' w.heap.size (fun k_ => some k_ ≠ (.slice (some ad444) t430.length co20 : Value).ownBlock ∧ some k_ ≠ (s_.2.1 : Value).ownBlock) v427 t426) ∧ (Kd.R (Kd.int .i64) 2 w' w.heap.size (fun k_ => some k_ ≠ (v427 : Value).ownBlock ∧ some k_ ≠ (s_.2.1 : Value).ownBlock) (.slice (some ad444) t430.length co20) t430) ∧ (Kd.R k77 77 w' w.heap.size (fun _ => True) s_.1 y433) ∧ (Kd.R (Kd.int .i64) 2 w' w.heap.size (fun k_ => some k_ ≠ (v427 : Value).ownBlock ∧ some k_ ≠ (.slice (some ad444) t430.length co20 : Value).ownBlock) s_.2.1 t437) ∧ (w'.heap[gb421]? = some (.cells #[.slice none 0 0, .slice none 0 0, .slice none 0 0, .int .i64 0, .int .i64 0] 31 (0, 0))) ∧ (w'.heap[s_.2.2]? = some (.cells #[.slice none 0 0, .slice none 0 0, .slice none 0 0, .int .i64 0, .int .i64 0] 31 (0, 0))) ∧ (w.heap.size ≤ s_.2.2) ∧ (w.heap.size ≤ s_.2.2) ∧ (gb421 ≠ s_.2.2) ∧ (s_.2.2 ≠ gb421) ∧ (Below w.heap.size w w')) ?_ ?_
           rotate_left
           ·intro hJ0_4_16
            refine join_ (σ := Value × Value × Nat) 3 m17_16 (fun s_ => [(31, s_.1), (35, s_.2.1), (7, .pointer (some ⟨s_.2.2, 0, none⟩))]) (fun s_ w' => (w'.cell? ⟨ad425.block, ad425.off + 1, none⟩ = some (.string (rdOf ByteArray.empty t422 1)) ∧ w'.cell? ⟨ad425.block, ad425.off + 2, none⟩ = some (.string (rdOf ByteArray.empty t422 2)) ∧ w'.cell? ad444 = some (.int .i64 (rd t430 0)) ∧ w'.cell? ⟨ad444.block, ad444.off + 1, none⟩ = some (.int .i64 (rd t430 1))) ∧ (Kd.R Kd.string 9 w' w.heap.size (fun _ => True) (.slice (some ad425) t422.length co17) t422) ∧ (Kd.R (Kd.int .i64) 2 w' w.heap.size (fun k_ => some k_ ≠ (.slice (some ad444) t430.length co20 : Value).ownBlock ∧ some k_ ≠ (s_.1 : Value).ownBlock ∧ some k_ ≠ (s_.2.1 : Value).ownBlock) v427 t426) ∧ (Kd.R (Kd.int .i64) 2 w' w.heap.size (fun k_ => some k_ ≠ (v427 : Value).ownBlock ∧ some k_ ≠ (s_.1 : Value).ownBlock ∧ some k_ ≠ (s_.2.1 : Value).ownBlock) (.slice (some ad444) t430.length co20) t430) ∧ (Kd.R (Kd.int .i64) 2 w' w.heap.size (fun k_ => some k_ ≠ (v427 : Value).ownBlock ∧ some k_ ≠ (.slice (some ad444) t430.length co20 : Value).ownBlock ∧ some k_ ≠ (s_.2.1 : Value).ownBlock) s_.1 t437) ∧ (Kd.R (Kd.int .i64) 2 w' w.heap.size (fun k_ => some k_ ≠ (v427 : Value).ownBlock ∧ some k_ ≠ (.slice (some ad444) t430.length co20 : Value).ownBlock ∧ some k_ ≠ (s_.1 : Value).ownBlock) s_.2.1 t441) ∧ (w'.heap[gb421]? = some (.cells #[.slice none 0 0, .slice none 0 0, .slice none 0 0, .int .i64 0, .int .i64 0] 31 (0, 0))) ∧ (w'.heap[s_.2.2]? = some (.cells #[.slice none 0 0, .slice none 0 0, .slice none 0 0, .int .i64 0, .int .i64 0] 31 (0, 0))) ∧ (w.heap.size ≤ s_.2.2) ∧ (w.heap.size ≤ s_.2.2) ∧ (gb421 ≠ s_.2.2) ∧ (s_.2.2 ≠ gb421) ∧ (Below w.heap.size w w')) ?_ ?_
            rotate_left
            ·intro hJ4_8_16
             refine join_ (σ := Value × Value) 4 m17_17 (fun s_ => [(27, s_.1), (31, s_.2)]) (fun s_ w' => (w'.cell? ⟨ad425.block, ad425.off + 1, none⟩ = some (.string (rdOf ByteArray.empty t422 1)) ∧ w'.cell? ⟨ad425.block, ad425.off + 2, none⟩ = some (.string (rdOf ByteArray.empty t422 2)) ∧ w'.cell? ad444 = some (.int .i64 (rd t430 0)) ∧ w'.cell? ⟨ad444.block, ad444.off + 1, none⟩ = some (.int .i64 (rd t430 1))) ∧ (Kd.R Kd.string 9 w' w.heap.size (fun _ => True) (.slice (some ad425) t422.length co17) t422) ∧ (Kd.R (Kd.int .i64) 2 w' w.heap.size (fun k_ => some k_ ≠ (.slice (some ad444) t430.length co20 : Value).ownBlock ∧ some k_ ≠ (s_.2 : Value).ownBlock) v427 t426) ∧ (Kd.R (Kd.int .i64) 2 w' w.heap.size (fun k_ => some k_ ≠ (v427 : Value).ownBlock ∧ some k_ ≠ (s_.2 : Value).ownBlock) (.slice (some ad444) t430.length co20) t430) ∧ (Kd.R k77 77 w' w.heap.size (fun _ => True) s_.1 y433) ∧ (Kd.R (Kd.int .i64) 2 w' w.heap.size (fun k_ => some k_ ≠ (v427 : Value).ownBlock ∧ some k_ ≠ (.slice (some ad444) t430.length co20 : Value).ownBlock) s_.2 t437) ∧ (w'.heap[gb421]? = some (.cells #[.slice none 0 0, .slice none 0 0, .slice none 0 0, .int .i64 0, .int .i64 0] 31 (0, 0))) ∧ (Below w.heap.size w w')) ?_ ?_
             rotate_left
             ·intro hJ0_4
              refine join_ (σ := Value × Nat) 4 m17_18 (fun s_ => [(27, s_.1), (7, .pointer (some ⟨s_.2, 0, none⟩))]) (fun s_ w' => (w'.cell? ⟨ad425.block, ad425.off + 1, none⟩ = some (.string (rdOf ByteArray.empty t422 1)) ∧ w'.cell? ⟨ad425.block, ad425.off + 2, none⟩ = some (.string (rdOf ByteArray.empty t422 2)) ∧ w'.cell? ad444 = some (.int .i64 (rd t430 0)) ∧ w'.cell? ⟨ad444.block, ad444.off + 1, none⟩ = some (.int .i64 (rd t430 1))) ∧ (Kd.R Kd.string 9 w' w.heap.size (fun _ => True) (.slice (some ad425) t422.length co17) t422) ∧ (Kd.R (Kd.int .i64) 2 w' w.heap.size (fun k_ => some k_ ≠ (.slice (some ad444) t430.length co20 : Value).ownBlock) v427 t426) ∧ (Kd.R (Kd.int .i64) 2 w' w.heap.size (fun k_ => some k_ ≠ (v427 : Value).ownBlock) (.slice (some ad444) t430.length co20) t430) ∧ (Kd.R k77 77 w' w.heap.size (fun _ => True) s_.1 y433) ∧ (w'.heap[gb421]? = some (.cells #[.slice none 0 0, .slice none 0 0, .slice none 0 0, .int .i64 0, .int .i64 0] 31 (0, 0))) ∧ (w'.heap[s_.2]? = some (.cells #[.slice none 0 0, .slice none 0 0, .slice none 0 0, .int .i64 0, .int .i64 0] 31 (0, 0))) ∧ (w.heap.size ≤ s_.2) ∧ (w.heap.size ≤ s_.2) ∧ (gb421 ≠ s_.2) ∧ (s_.2 ≠ gb421) ∧ (Below w.heap.size w w')) ?_ ?_
              rotate_left
              ·intro hJ0_16
               refine join_ (σ := Value × Value) 4 m17_19 (fun s_ => [(31, s_.1), (35, s_.2)]) (fun s_ w' => (w'.cell? ⟨ad425.block, ad425.off + 1, none⟩ = some (.string (rdOf ByteArray.empty t422 1)) ∧ w'.cell? ⟨ad425.block, ad425.off + 2, none⟩ = some (.string (rdOf ByteArray.empty t422 2)) ∧ w'.cell? ad444 = some (.int .i64 (rd t430 0)) ∧ w'.cell? ⟨ad444.block, ad444.off + 1, none⟩ = some (.int .i64 (rd t430 1))) ∧ (Kd.R Kd.string 9 w' w.heap.size (fun _ => True) (.slice (some ad425) t422.length co17) t422) ∧ (Kd.R (Kd.int .i64) 2 w' w.heap.size (fun k_ => some k_ ≠ (.slice (some ad444) t430.length co20 : Value).ownBlock ∧ some k_ ≠ (s_.1 : Value).ownBlock ∧ some k_ ≠ (s_.2 : Value).ownBlock) v427 t426) ∧ (Kd.R (Kd.int .i64) 2 w' w.heap.size (fun k_ => some k_ ≠ (v427 : Value).ownBlock ∧ some k_ ≠ (s_.1 : Value).ownBlock ∧ some k_ ≠ (s_.2 : Value).ownBlock) (.slice (some ad444) t430.length co20) t430) ∧ (Kd.R (Kd.int .i64) 2 w' w.heap.size (fun k_ => some k_ ≠ (v427 : Value).ownBlock ∧ some k_ ≠ (.slice (some ad444) t430.length co20 : Value).ownBlock ∧ some k_ ≠ (s_.2 : Value).ownBlock) s_.1 t437) ∧ (Kd.R (Kd.int .i64) 2 w' w.heap.size (fun k_ => some k_ ≠ (v427 : Value).ownBlock ∧ some k_ ≠ (.slice (some ad444) t430.length co20 : Value).ownBlock ∧ some k_ ≠ (s_.1 : Value).ownBlock) s_.2 t441) ∧ (w'.heap[gb421]? = some (.cells #[.slice none 0 0, .slice none 0 0, .slice none 0 0, .int .i64 0, .int .i64 0] 31 (0, 0))) ∧ (Below w.heap.size w w')) ?_ ?_
               rotate_left
               ·intro hJ4_8
                refine join_ (σ := Value × Nat) 4 m17_20 (fun s_ => [(31, s_.1), (7, .pointer (some ⟨s_.2, 0, none⟩))]) (fun s_ w' => (w'.cell? ⟨ad425.block, ad425.off + 1, none⟩ = some (.string (rdOf ByteArray.empty t422 1)) ∧ w'.cell? ⟨ad425.block, ad425.off + 2, none⟩ = some (.string (rdOf ByteArray.empty t422 2)) ∧ w'.cell? ad444 = some (.int .i64 (rd t430 0)) ∧ w'.cell? ⟨ad444.block, ad444.off + 1, none⟩ = some (.int .i64 (rd t430 1))) ∧ (Kd.R Kd.string 9 w' w.heap.size (fun _ => True) (.slice (some ad425) t422.length co17) t422) ∧ (Kd.R (Kd.int .i64) 2 w' w.heap.size (fun k_ => some k_ ≠ (.slice (some ad444) t430.length co20 : Value).ownBlock ∧ some k_ ≠ (s_.1 : Value).ownBlock) v427 t426) ∧ (Kd.R (Kd.int .i64) 2 w' w.heap.size (fun k_ => some k_ ≠ (v427 : Value).ownBlock ∧ some k_ ≠ (s_.1 : Value).ownBlock) (.slice (some ad444) t430.length co20) t430) ∧ (Kd.R (Kd.int .i64) 2 w' w.heap.size (fun k_ => some k_ ≠ (v427 : Value).ownBlock ∧ some k_ ≠ (.slice (some ad444) t430.length co20 : Value).ownBlock) s_.1 t437) ∧ (w'.heap[gb421]? = some (.cells #[.slice none 0 0, .slice none 0 0, .slice none 0 0, .int .i64 0, .int .i64 0] 31 (0, 0))) ∧ (w'.heap[s_.2]? = some (.cells #[.slice none 0 0, .slice none 0 0, .slice none 0 0, .int .i64 0, .int .i64 0] 31 (0, 0))) ∧ (w.heap.size ≤ s_.2) ∧ (w.heap.size ≤ s_.2) ∧ (gb421 ≠ s_.2) ∧ (s_.2 ≠ gb421) ∧ (Below w.heap.size w w')) ?_ ?_
                rotate_left
                ·intro hJ4_16
                 refine join_ (σ := Value) 5 m17_21 (fun s_ => [(27, s_)]) (fun s_ w' => (w'.cell? ⟨ad425.block, ad425.off + 1, none⟩ = some (.string (rdOf ByteArray.empty t422 1)) ∧ w'.cell? ⟨ad425.block, ad425.off + 2, none⟩ = some (.string (rdOf ByteArray.empty t422 2)) ∧ w'.cell? ad444 = some (.int .i64 (rd t430 0)) ∧ w'.cell? ⟨ad444.block, ad444.off + 1, none⟩ = some (.int .i64 (rd t430 1))) ∧ (Kd.R Kd.string 9 w' w.heap.size (fun _ => True) (.slice (some ad425) t422.length co17) t422) ∧ (Kd.R (Kd.int .i64) 2 w' w.heap.size (fun k_ => some k_ ≠ (.slice (some ad444) t430.length co20 : Value).ownBlock) v427 t426) ∧ (Kd.R (Kd.int .i64) 2 w' w.heap.size (fun k_ => some k_ ≠ (v427 : Value).ownBlock) (.slice (some ad444) t430.length co20) t430) ∧ (Kd.R k77 77 w' w.heap.size (fun _ => True) s_ y433) ∧ (w'.heap[gb421]? = some (.cells #[.slice none 0 0, .slice none 0 0, .slice none 0 0, .int .i64 0, .int .i64 0] 31 (0, 0))) ∧ (Below w.heap.size w w')) ?_ ?_
                 rotate_left
                 ·intro hJ0
                  refine join_ (σ := Value) 5 m17_22 (fun s_ => [(31, s_)]) (fun s_ w' => (w'.cell? ⟨ad425.block, ad425.off + 1, none⟩ = some (.string (rdOf ByteArray.empty t422 1)) ∧ w'.cell? ⟨ad425.block, ad425.off + 2, none⟩ = some (.string (rdOf ByteArray.empty t422 2)) ∧ w'.cell? ad444 = some (.int .i64 (rd t430 0)) ∧ w'.cell? ⟨ad444.block, ad444.off + 1, none⟩ = some (.int .i64 (rd t430 1))) ∧ (Kd.R Kd.string 9 w' w.heap.size (fun _ => True) (.slice (some ad425) t422.length co17) t422) ∧ (Kd.R (Kd.int .i64) 2 w' w.heap.size (fun k_ => some k_ ≠ (.slice (some ad444) t430.length co20 : Value).ownBlock ∧ some k_ ≠ (s_ : Value).ownBlock) v427 t426) ∧ (Kd.R (Kd.int .i64) 2 w' w.heap.size (fun k_ => some k_ ≠ (v427 : Value).ownBlock ∧ some k_ ≠ (s_ : Value).ownBlock) (.slice (some ad444) t430.length co20) t430) ∧ (Kd.R (Kd.int .i64) 2 w' w.heap.size (fun k_ => some k_ ≠ (v427 : Value).ownBlock ∧ some k_ ≠ (.slice (some ad444) t430.length co20 : Value).ownBlock) s_ t437) ∧ (w'.heap[gb421]? = some (.cells #[.slice none 0 0, .slice none 0 0, .slice none 0 0, .int .i64 0, .int .i64 0] 31 (0, 0))) ∧ (Below w.heap.size w w')) ?_ ?_
                  rotate_left
                  ·intro hJ4
                   refine join_ (σ := Nat) 5 m17_23 (fun s_ => [(7, .pointer (some ⟨s_, 0, none⟩))]) (fun s_ w' => (w'.cell? ⟨ad425.block, ad425.off + 1, none⟩ = some (.string (rdOf ByteArray.empty t422 1)) ∧ w'.cell? ⟨ad425.block, ad425.off + 2, none⟩ = some (.string (rdOf ByteArray.empty t422 2)) ∧ w'.cell? ad444 = some (.int .i64 (rd t430 0)) ∧ w'.cell? ⟨ad444.block, ad444.off + 1, none⟩ = some (.int .i64 (rd t430 1))) ∧ (Kd.R Kd.string 9 w' w.heap.size (fun _ => True) (.slice (some ad425) t422.length co17) t422) ∧ (Kd.R (Kd.int .i64) 2 w' w.heap.size (fun k_ => some k_ ≠ (.slice (some ad444) t430.length co20 : Value).ownBlock) v427 t426) ∧ (Kd.R (Kd.int .i64) 2 w' w.heap.size (fun k_ => some k_ ≠ (v427 : Value).ownBlock) (.slice (some ad444) t430.length co20) t430) ∧ (w'.heap[gb421]? = some (.cells #[.slice none 0 0, .slice none 0 0, .slice none 0 0, .int .i64 0, .int .i64 0] 31 (0, 0))) ∧ (w'.heap[s_]? = some (.cells #[.slice none 0 0, .slice none 0 0, .slice none 0 0, .int .i64 0, .int .i64 0] 31 (0, 0))) ∧ (w.heap.size ≤ s_) ∧ (w.heap.size ≤ s_) ∧ (gb421 ≠ s_) ∧ (s_ ≠ gb421) ∧ (Below w.heap.size w w')) ?_ ?_
                   rotate_left
                   ·intro hJ16
                    refine three_ (i := 0) (j := 4) (k := 16) (Ni := some 27) (Nj := some 31) (Nk := some 7) m17_21 m17_22 m17_23 rfl rfl rfl rfl rfl rfl (three_of HT_.out (by kernel_rfl)) (by decide) (by decide) (by decide) (fun K hK => ?_) (fun K hK => ?_) (fun K hK => ?_)
                    ·skip
                     refine Kd.R_lit_step k77 _ 77 ?hg (N := 27) ?hd (xs := ([] : List (S77))) (inner := []) (ok := fun _ => True) (okp := fun _ => True) ?hr ?hp (fun _ hk => hk) trivial (Below.refl _ _) (Nat.le_refl _) (by simp) ?_; (case hd => rfl); (case hg => rfl); (case hr => first | (go_simp; done) | (go_simp; rfl)); (case hp => exact (Reps.none _ _))
                     intro v434 w22 ho23 hb hg_ hnew_
                     have HS0_ := (hb.cell (World.block_lt_of_cell? _ _ (hHeld.1))).trans (hHeld.1)
                     have HS1_ := (hb.cell (World.block_lt_of_cell? _ _ (hHeld.2.1))).trans (hHeld.2.1)
                     have HS2_ := (hb.cell (World.block_lt_of_cell? _ _ (hHeld.2.2.1))).trans (hHeld.2.2.1)
                     have HS3_ := (hb.cell (World.block_lt_of_cell? _ _ (hHeld.2.2.2))).trans (hHeld.2.2.2)
                     clear hg_ hnew_
                     (first | rw [← Ny433.out] at ho23 | (simp only [Int.reduceToNat] at ho23; rw [← Ny433.out] at ho23))
                     have n0_ := Aside0.mk (Kd.R_below (by (with_reducible repeat (first | apply Kd.R_alloc | apply Kd.R_drewN | apply Kd.R_drew)); exact HO424.out) hb)
                     have n1_ := Aside0.mk (Kd.R_below (by (with_reducible repeat (first | apply Kd.R_alloc | apply Kd.R_drewN | apply Kd.R_drew)); exact HO428.out) hb)
                     have n2_ := Aside0.mk (Kd.R_below (by (with_reducible repeat (first | apply Kd.R_alloc | apply Kd.R_drewN | apply Kd.R_drew)); exact HO432.out) hb)
                     have n3_ := Aside0.mk (Kd.R_lower ho23 (below_size (by repeat (first | (with_reducible first | exact HB.out | apply below_alloc | apply pw_below_drewN | apply below_drew1 | refine below_set ?_ GE421.out) | exact HB.out))))
                     have n4_ := Aside0.mk (blk_below (g := gb421) (o := .cells #[.slice none 0 0, .slice none 0 0, .slice none 0 0, .int .i64 0, .int .i64 0] 31 (0, 0)) (by (with_reducible repeat (first | refine blk_drewN ?_ _ | refine blk_drew ?_ | refine blk_alloc ?_ _)); exact BK421.out) hb)
                     have n5_ := Aside0.mk (below_step (by repeat (first | (with_reducible first | exact HB.out | apply below_alloc | apply pw_below_drewN | apply below_drew1 | refine below_set ?_ GE421.out) | exact HB.out)) hb)
                     clear HO424
                     clear HO428
                     clear HO432
                     clear BK421
                     clear HB
                     have HO424 := n0_
                     have HO428 := n1_
                     have HO432 := n2_
                     have HO435 := n3_
                     have BK421 := n4_
                     have HB := n5_
                     clear n0_ n1_ n2_ n3_ n4_ n5_
                     clear hb ho23
                     refine hK.out _ _ ⟨HS0_, HS1_, HS2_, HS3_⟩ (fun hHeld => ?_)
                     clear hK K
                     refine norm_ (a' := ?_) ?_ ?_
                     rotate_left
                     ·show Act.put _ (some 27) _ = _
                      simp only [Act.put, qa_, qz_, qs_, i64_w, i32_w]
                      rfl
                     exact norm_ (by first | (simp only [putAll, Act.put, qa_, qz_, qs_]; done) | (simp only [putAll, Act.put, qa_, qz_, qs_]; rfl)) (hJ0 (v434) _ ⟨hHeld, (by (with_reducible repeat (first | apply Kd.R_alloc | apply Kd.R_drewN | apply Kd.R_drew)); exact HO424.out), (by (with_reducible repeat (first | apply Kd.R_alloc | apply Kd.R_drewN | apply Kd.R_drew)); exact Kd.R_mono HO428.out (fun _ hk => hk.2)), (by (with_reducible repeat (first | apply Kd.R_alloc | apply Kd.R_drewN | apply Kd.R_drew)); exact Kd.R_mono HO432.out (fun _ hk => hk.2)), (by (with_reducible repeat (first | apply Kd.R_alloc | apply Kd.R_drewN | apply Kd.R_drew)); exact HO435.out), (by (with_reducible repeat (first | refine blk_drewN ?_ _ | refine blk_drew ?_ | refine blk_alloc ?_ _)); exact BK421.out), (by repeat (first | (with_reducible first | exact HB.out | apply below_alloc | apply pw_below_drewN | apply below_drew1 | refine below_set ?_ GE421.out) | exact HB.out))⟩)
                    ·skip
                     refine goes_ Tryd.func45 (by kernel_rfl) rfl #[.string (rdOf ByteArray.empty t422 1)] (by rfl) rfl rfl (by (try simp only [List.map_toArray, List.map_cons, List.map_nil]); first | done | rfl) ?_
                     with_reducible refine (spec_l02Numbers.calls k (rdOf ByteArray.empty t422 1) t437 _ A10.out).mono ?_
                     rintro e w22 ⟨v438, rfl, ho0, hb⟩
                     have HS0_ := (hb.cell (World.block_lt_of_cell? _ _ (hHeld.1))).trans (hHeld.1)
                     have HS1_ := (hb.cell (World.block_lt_of_cell? _ _ (hHeld.2.1))).trans (hHeld.2.1)
                     have HS2_ := (hb.cell (World.block_lt_of_cell? _ _ (hHeld.2.2.1))).trans (hHeld.2.2.1)
                     have HS3_ := (hb.cell (World.block_lt_of_cell? _ _ (hHeld.2.2.2))).trans (hHeld.2.2.2)
                     refine ⟨_, rfl, ?_⟩
                     have n0_ := Aside0.mk (Kd.R_below (by (with_reducible repeat (first | apply Kd.R_alloc | apply Kd.R_drewN | apply Kd.R_drew)); exact HO424.out) hb)
                     have n1_ := Aside0.mk (Kd.R_elder' (by (with_reducible repeat (first | apply Kd.R_alloc | apply Kd.R_drewN | apply Kd.R_drew)); exact HO428.out) (Kd.R_base ho0) hb)
                     have n2_ := Aside0.mk (Kd.R_elder' (by (with_reducible repeat (first | apply Kd.R_alloc | apply Kd.R_drewN | apply Kd.R_drew)); exact HO432.out) (Kd.R_base ho0) hb)
                     have n3_ := Aside0.mk (Kd.R_lower (Kd.R_new' (Kd.R_new' ho0 (Kd.R_lt (by (with_reducible repeat (first | apply Kd.R_alloc | apply Kd.R_drewN | apply Kd.R_drew)); exact HO428.out))) (Kd.R_lt (by (with_reducible repeat (first | apply Kd.R_alloc | apply Kd.R_drewN | apply Kd.R_drew)); exact HO432.out))) (below_size (by repeat (first | (with_reducible first | exact HB.out | apply below_alloc | apply pw_below_drewN | apply below_drew1 | refine below_set ?_ GE421.out) | exact HB.out))))
                     have n4_ := Aside0.mk (blk_below (g := gb421) (o := .cells #[.slice none 0 0, .slice none 0 0, .slice none 0 0, .int .i64 0, .int .i64 0] 31 (0, 0)) (by (with_reducible repeat (first | refine blk_drewN ?_ _ | refine blk_drew ?_ | refine blk_alloc ?_ _)); exact BK421.out) hb)
                     have n5_ := Aside0.mk (below_step (by repeat (first | (with_reducible first | exact HB.out | apply below_alloc | apply pw_below_drewN | apply below_drew1 | refine below_set ?_ GE421.out) | exact HB.out)) hb)
                     clear HO424
                     clear HO428
                     clear HO432
                     clear BK421
                     clear HB
                     have HO424 := n0_
                     have HO428 := n1_
                     have HO432 := n2_
                     have HO439 := n3_
                     have BK421 := n4_
                     have HB := n5_
                     clear n0_ n1_ n2_ n3_ n4_ n5_
                     (try clear hb)
                     (try clear hb2)
                     (try clear hk)
                     (try clear hi)
                     (try clear ho0)
                     refine hK.out _ _ ⟨HS0_, HS1_, HS2_, HS3_⟩ (fun hHeld => ?_)
                     clear hK K
                     refine norm_ (a' := ?_) ?_ ?_
                     rotate_left
                     ·show Act.put _ (some 31) _ = _
                      simp only [Act.put, qa_, qz_, qs_, i64_w, i32_w]
                      rfl
                     exact norm_ (by first | (simp only [putAll, Act.put, qa_, qz_, qs_]; done) | (simp only [putAll, Act.put, qa_, qz_, qs_]; rfl)) (hJ4 (v438) _ ⟨hHeld, (by (with_reducible repeat (first | apply Kd.R_alloc | apply Kd.R_drewN | apply Kd.R_drew)); exact HO424.out), (by (with_reducible repeat (first | apply Kd.R_alloc | apply Kd.R_drewN | apply Kd.R_drew)); exact Kd.R_mono HO428.out (fun _ hk => ⟨hk.1.2, hk.2⟩)), (by (with_reducible repeat (first | apply Kd.R_alloc | apply Kd.R_drewN | apply Kd.R_drew)); exact Kd.R_mono HO432.out (fun _ hk => ⟨hk.1.2, hk.2⟩)), (by (with_reducible repeat (first | apply Kd.R_alloc | apply Kd.R_drewN | apply Kd.R_drew)); exact Kd.R_mono HO439.out (fun _ hk => ⟨hk.1.2, hk.2⟩)), (by (with_reducible repeat (first | refine blk_drewN ?_ _ | refine blk_drew ?_ | refine blk_alloc ?_ _)); exact BK421.out), (by repeat (first | (with_reducible first | exact HB.out | apply below_alloc | apply pw_below_drewN | apply below_drew1 | refine below_set ?_ GE421.out) | exact HB.out))⟩)
                    ·skip
                     refine box_step ?hg (N := 7) ?hd (cs := #[.slice none 0 0, .slice none 0 0, .slice none 0 0, .int .i64 0, .int .i64 0]) (t := 31) ?hr ?_; (case hd => rfl); (case hg => rfl); (case hr => first | (go_simp; done) | (go_simp; rfl))
                     intro gb446 hg w22 hbox hb
                     have HS0_ := (hb.cell (World.block_lt_of_cell? _ _ (hHeld.1))).trans (hHeld.1)
                     have HS1_ := (hb.cell (World.block_lt_of_cell? _ _ (hHeld.2.1))).trans (hHeld.2.1)
                     have HS2_ := (hb.cell (World.block_lt_of_cell? _ _ (hHeld.2.2.1))).trans (hHeld.2.2.1)
                     have HS3_ := (hb.cell (World.block_lt_of_cell? _ _ (hHeld.2.2.2))).trans (hHeld.2.2.2)
                     have n0_ := Aside0.mk (Kd.R_below (by (with_reducible repeat (first | apply Kd.R_alloc | apply Kd.R_drewN | apply Kd.R_drew)); exact HO424.out) hb)
                     have n1_ := Aside0.mk (Kd.R_below (by (with_reducible repeat (first | apply Kd.R_alloc | apply Kd.R_drewN | apply Kd.R_drew)); exact HO428.out) hb)
                     have n2_ := Aside0.mk (Kd.R_below (by (with_reducible repeat (first | apply Kd.R_alloc | apply Kd.R_drewN | apply Kd.R_drew)); exact HO432.out) hb)
                     have n3_ := Aside0.mk (blk_below (g := gb421) (o := .cells #[.slice none 0 0, .slice none 0 0, .slice none 0 0, .int .i64 0, .int .i64 0] 31 (0, 0)) (by (with_reducible repeat (first | refine blk_drewN ?_ _ | refine blk_drew ?_ | refine blk_alloc ?_ _)); exact BK421.out) hb)
                     have n4_ := Aside0.mk (below_step (by repeat (first | (with_reducible first | exact HB.out | apply below_alloc | apply pw_below_drewN | apply below_drew1 | refine below_set ?_ GE421.out) | exact HB.out)) hb)
                     have n5_ := Aside0.mk (hbox)
                     have n6_ := Aside0.mk ((by rw [hg]; exact (below_size (by repeat (first | (with_reducible first | exact HB.out | apply below_alloc | apply pw_below_drewN | apply below_drew1 | refine below_set ?_ GE421.out) | exact HB.out))) : w.heap.size ≤ gb446))
                     have n7_ := Aside0.mk ((by rw [hg]; exact (below_size (by repeat (first | (with_reducible first | exact HB.out | apply below_alloc | apply pw_below_drewN | apply below_drew1 | refine below_set ?_ GE421.out) | exact HB.out))) : w.heap.size ≤ gb446))
                     have n8_ := Aside0.mk ((by rw [hg]; exact Nat.ne_of_lt (blk_lt (g := gb421) (o := .cells #[.slice none 0 0, .slice none 0 0, .slice none 0 0, .int .i64 0, .int .i64 0] 31 (0, 0)) (by (with_reducible repeat (first | refine blk_drewN ?_ _ | refine blk_drew ?_ | refine blk_alloc ?_ _)); exact BK421.out)) : gb421 ≠ gb446))
                     have n9_ := Aside0.mk ((by rw [hg]; exact Nat.ne_of_gt (blk_lt (g := gb421) (o := .cells #[.slice none 0 0, .slice none 0 0, .slice none 0 0, .int .i64 0, .int .i64 0] 31 (0, 0)) (by (with_reducible repeat (first | refine blk_drewN ?_ _ | refine blk_drew ?_ | refine blk_alloc ?_ _)); exact BK421.out)) : gb446 ≠ gb421))
                     clear HO424
                     clear HO428
                     clear HO432
                     clear BK421
                     clear HB
                     have HO424 := n0_
                     have HO428 := n1_
                     have HO432 := n2_
                     have BK421 := n3_
                     have HB := n4_
                     have BK446 := n5_
                     have GW446 := n6_
                     have GE446 := n7_
                     have NB421_446 := n8_
                     have NB446_421 := n9_
                     clear n0_ n1_ n2_ n3_ n4_ n5_ n6_ n7_ n8_ n9_
                     clear hb hbox hg
                     refine hK.out _ _ ⟨HS0_, HS1_, HS2_, HS3_⟩ (fun hHeld => ?_)
                     clear hK K
                     refine norm_ (a' := ?_) ?_ ?_
                     rotate_left
                     ·show Act.put _ (some 7) _ = _
                      simp only [Act.put, qa_, qz_, qs_, i64_w, i32_w]
                      rfl
                     exact norm_ (by first | (simp only [putAll, Act.put, qa_, qz_, qs_]; done) | (simp only [putAll, Act.put, qa_, qz_, qs_]; rfl)) (hJ16 (gb446) _ ⟨hHeld, (by (with_reducible repeat (first | apply Kd.R_alloc | apply Kd.R_drewN | apply Kd.R_drew)); exact HO424.out), (by (with_reducible repeat (first | apply Kd.R_alloc | apply Kd.R_drewN | apply Kd.R_drew)); exact Kd.R_mono HO428.out (fun _ hk => hk.2)), (by (with_reducible repeat (first | apply Kd.R_alloc | apply Kd.R_drewN | apply Kd.R_drew)); exact Kd.R_mono HO432.out (fun _ hk => hk.2)), (by (with_reducible repeat (first | refine blk_drewN ?_ _ | refine blk_drew ?_ | refine blk_alloc ?_ _)); exact BK421.out), (by (with_reducible repeat (first | refine blk_drewN ?_ _ | refine blk_drew ?_ | refine blk_alloc ?_ _)); exact BK446.out), GW446.out, GE446.out, NB421_446.out, NB446_421.out, (by repeat (first | (with_reducible first | exact HB.out | apply below_alloc | apply pw_below_drewN | apply below_drew1 | refine below_set ?_ GE421.out | refine below_set ?_ GE446.out) | exact HB.out))⟩)
                   ·skip
                    rintro gb446 w23 ⟨hS_, h0_, h1_, h2_, h3_, h4_, h5_, h6_, h7_, h8_, h9_⟩
                    have n0_ : Aside0 (Kd.R Kd.string 9 w23 w.heap.size (fun _ => True) (.slice (some ad425) t422.length co17) t422) := ⟨h0_⟩
                    have n1_ : Aside0 (Kd.R (Kd.int .i64) 2 w23 w.heap.size (fun k_ => some k_ ≠ (.slice (some ad444) t430.length co20 : Value).ownBlock) v427 t426) := ⟨h1_⟩
                    have n2_ : Aside0 (Kd.R (Kd.int .i64) 2 w23 w.heap.size (fun k_ => some k_ ≠ (v427 : Value).ownBlock) (.slice (some ad444) t430.length co20) t430) := ⟨h2_⟩
                    have n3_ : Aside0 (w23.heap[gb421]? = some (.cells #[.slice none 0 0, .slice none 0 0, .slice none 0 0, .int .i64 0, .int .i64 0] 31 (0, 0))) := ⟨h3_⟩
                    have n4_ : Aside0 (w23.heap[gb446]? = some (.cells #[.slice none 0 0, .slice none 0 0, .slice none 0 0, .int .i64 0, .int .i64 0] 31 (0, 0))) := ⟨h4_⟩
                    have n5_ : Aside0 (w.heap.size ≤ gb446) := ⟨h5_⟩
                    have n6_ : Aside0 (w.heap.size ≤ gb446) := ⟨h6_⟩
                    have n7_ : Aside0 (gb421 ≠ gb446) := ⟨h7_⟩
                    have n8_ : Aside0 (gb446 ≠ gb421) := ⟨h8_⟩
                    have n9_ : Aside0 (Below w.heap.size w w23) := ⟨h9_⟩
                    clear HO424
                    clear HO428
                    clear HO432
                    clear BK421
                    clear HB
                    clear h0_ h1_ h2_ h3_ h4_ h5_ h6_ h7_ h8_ h9_
                    have HO424 := n0_
                    have HO428 := n1_
                    have HO432 := n2_
                    have BK421 := n3_
                    have BK446 := n4_
                    have GW446 := n5_
                    have GE446 := n6_
                    have NB421_446 := n7_
                    have NB446_421 := n8_
                    have HB := n9_
                    clear n0_ n1_ n2_ n3_ n4_ n5_ n6_ n7_ n8_ n9_
                    have hHeld : w23.cell? ⟨ad425.block, ad425.off + 1, none⟩ = some (.string (rdOf ByteArray.empty t422 1)) ∧ w23.cell? ⟨ad425.block, ad425.off + 2, none⟩ = some (.string (rdOf ByteArray.empty t422 2)) ∧ w23.cell? ad444 = some (.int .i64 (rd t430 0)) ∧ w23.cell? ⟨ad444.block, ad444.off + 1, none⟩ = some (.int .i64 (rd t430 1)) := hS_
                    refine norm_ (a' := ?_) ?_ ?_
                    rotate_left
                    ·simp only [putAll, Act.put, qa_, qz_, qs_]
                     rfl
                    refine two_ (i := 0) (j := 4) (Ni := some 27) (Nj := some 31) m17_18 m17_20 rfl rfl rfl rfl (two_of HT_.out (by kernel_rfl)) (by decide) (by decide) (fun K hK => ?_) (fun K hK => ?_)
                    ·skip
                     refine Kd.R_lit_step k77 _ 77 ?hg (N := 27) ?hd (xs := ([] : List (S77))) (inner := []) (ok := fun _ => True) (okp := fun _ => True) ?hr ?hp (fun _ hk => hk) trivial (Below.refl _ _) (Nat.le_refl _) (by simp) ?_; (case hd => rfl); (case hg => rfl); (case hr => first | (go_simp; done) | (go_simp; rfl)); (case hp => exact (Reps.none _ _))
                     intro v434 w24 ho25 hb hg_ hnew_
                     have HS0_ := (hb.cell (World.block_lt_of_cell? _ _ (hHeld.1))).trans (hHeld.1)
                     have HS1_ := (hb.cell (World.block_lt_of_cell? _ _ (hHeld.2.1))).trans (hHeld.2.1)
                     have HS2_ := (hb.cell (World.block_lt_of_cell? _ _ (hHeld.2.2.1))).trans (hHeld.2.2.1)
                     have HS3_ := (hb.cell (World.block_lt_of_cell? _ _ (hHeld.2.2.2))).trans (hHeld.2.2.2)
                     clear hg_ hnew_
                     (first | rw [← Ny433.out] at ho25 | (simp only [Int.reduceToNat] at ho25; rw [← Ny433.out] at ho25))
                     have n0_ := Aside0.mk (Kd.R_below (by (with_reducible repeat (first | apply Kd.R_alloc | apply Kd.R_drewN | apply Kd.R_drew)); exact HO424.out) hb)
                     have n1_ := Aside0.mk (Kd.R_below (by (with_reducible repeat (first | apply Kd.R_alloc | apply Kd.R_drewN | apply Kd.R_drew)); exact HO428.out) hb)
                     have n2_ := Aside0.mk (Kd.R_below (by (with_reducible repeat (first | apply Kd.R_alloc | apply Kd.R_drewN | apply Kd.R_drew)); exact HO432.out) hb)
                     have n3_ := Aside0.mk (Kd.R_lower ho25 (below_size (by repeat (first | (with_reducible first | exact HB.out | apply below_alloc | apply pw_below_drewN | apply below_drew1 | refine below_set ?_ GE421.out | refine below_set ?_ GE446.out) | exact HB.out))))
                     have n4_ := Aside0.mk (blk_below (g := gb421) (o := .cells #[.slice none 0 0, .slice none 0 0, .slice none 0 0, .int .i64 0, .int .i64 0] 31 (0, 0)) (by (with_reducible repeat (first | refine blk_drewN ?_ _ | refine blk_drew ?_ | refine blk_alloc ?_ _)); exact BK421.out) hb)
                     have n5_ := Aside0.mk (blk_below (g := gb446) (o := .cells #[.slice none 0 0, .slice none 0 0, .slice none 0 0, .int .i64 0, .int .i64 0] 31 (0, 0)) (by (with_reducible repeat (first | refine blk_drewN ?_ _ | refine blk_drew ?_ | refine blk_alloc ?_ _)); exact BK446.out) hb)
                     have n6_ := Aside0.mk (below_step (by repeat (first | (with_reducible first | exact HB.out | apply below_alloc | apply pw_below_drewN | apply below_drew1 | refine below_set ?_ GE421.out | refine below_set ?_ GE446.out) | exact HB.out)) hb)
                     clear HO424
                     clear HO428
                     clear HO432
                     clear BK421
                     clear BK446
                     clear HB
                     have HO424 := n0_
                     have HO428 := n1_
                     have HO432 := n2_
                     have HO435 := n3_
                     have BK421 := n4_
                     have BK446 := n5_
                     have HB := n6_
                     clear n0_ n1_ n2_ n3_ n4_ n5_ n6_
                     clear hb ho25
                     refine hK.out _ _ ⟨HS0_, HS1_, HS2_, HS3_⟩ (fun hHeld => ?_)
                     clear hK K
                     refine norm_ (a' := ?_) ?_ ?_
                     rotate_left
                     ·show Act.put _ (some 27) _ = _
                      simp only [Act.put, qa_, qz_, qs_, i64_w, i32_w]
                      rfl
                     exact norm_ (by first | (simp only [putAll, Act.put, qa_, qz_, qs_]; done) | (simp only [putAll, Act.put, qa_, qz_, qs_]; rfl)) (hJ0_16 (v434, gb446) _ ⟨hHeld, (by (with_reducible repeat (first | apply Kd.R_alloc | apply Kd.R_drewN | apply Kd.R_drew)); exact HO424.out), (by (with_reducible repeat (first | apply Kd.R_alloc | apply Kd.R_drewN | apply Kd.R_drew)); exact HO428.out), (by (with_reducible repeat (first | apply Kd.R_alloc | apply Kd.R_drewN | apply Kd.R_drew)); exact HO432.out), (by (with_reducible repeat (first | apply Kd.R_alloc | apply Kd.R_drewN | apply Kd.R_drew)); exact HO435.out), (by (with_reducible repeat (first | refine blk_drewN ?_ _ | refine blk_drew ?_ | refine blk_alloc ?_ _)); exact BK421.out), (by (with_reducible repeat (first | refine blk_drewN ?_ _ | refine blk_drew ?_ | refine blk_alloc ?_ _)); exact BK446.out), GW446.out, GE446.out, NB421_446.out, NB446_421.out, (by repeat (first | (with_reducible first | exact HB.out | apply below_alloc | apply pw_below_drewN | apply below_drew1 | refine below_set ?_ GE421.out | refine below_set ?_ GE446.out) | exact HB.out))⟩)
                    ·skip
                     refine goes_ Tryd.func45 (by kernel_rfl) rfl #[.string (rdOf ByteArray.empty t422 1)] (by rfl) rfl rfl (by (try simp only [List.map_toArray, List.map_cons, List.map_nil]); first | done | rfl) ?_
                     with_reducible refine (spec_l02Numbers.calls k (rdOf ByteArray.empty t422 1) t437 _ A10.out).mono ?_
                     rintro e w24 ⟨v438, rfl, ho0, hb⟩
                     have HS0_ := (hb.cell (World.block_lt_of_cell? _ _ (hHeld.1))).trans (hHeld.1)
                     have HS1_ := (hb.cell (World.block_lt_of_cell? _ _ (hHeld.2.1))).trans (hHeld.2.1)
                     have HS2_ := (hb.cell (World.block_lt_of_cell? _ _ (hHeld.2.2.1))).trans (hHeld.2.2.1)
                     have HS3_ := (hb.cell (World.block_lt_of_cell? _ _ (hHeld.2.2.2))).trans (hHeld.2.2.2)
                     refine ⟨_, rfl, ?_⟩
                     have n0_ := Aside0.mk (Kd.R_below (by (with_reducible repeat (first | apply Kd.R_alloc | apply Kd.R_drewN | apply Kd.R_drew)); exact HO424.out) hb)
                     have n1_ := Aside0.mk (Kd.R_elder' (by (with_reducible repeat (first | apply Kd.R_alloc | apply Kd.R_drewN | apply Kd.R_drew)); exact HO428.out) (Kd.R_base ho0) hb)
                     have n2_ := Aside0.mk (Kd.R_elder' (by (with_reducible repeat (first | apply Kd.R_alloc | apply Kd.R_drewN | apply Kd.R_drew)); exact HO432.out) (Kd.R_base ho0) hb)
                     have n3_ := Aside0.mk (Kd.R_lower (Kd.R_new' (Kd.R_new' ho0 (Kd.R_lt (by (with_reducible repeat (first | apply Kd.R_alloc | apply Kd.R_drewN | apply Kd.R_drew)); exact HO428.out))) (Kd.R_lt (by (with_reducible repeat (first | apply Kd.R_alloc | apply Kd.R_drewN | apply Kd.R_drew)); exact HO432.out))) (below_size (by repeat (first | (with_reducible first | exact HB.out | apply below_alloc | apply pw_below_drewN | apply below_drew1 | refine below_set ?_ GE421.out | refine below_set ?_ GE446.out) | exact HB.out))))
                     have n4_ := Aside0.mk (blk_below (g := gb421) (o := .cells #[.slice none 0 0, .slice none 0 0, .slice none 0 0, .int .i64 0, .int .i64 0] 31 (0, 0)) (by (with_reducible repeat (first | refine blk_drewN ?_ _ | refine blk_drew ?_ | refine blk_alloc ?_ _)); exact BK421.out) hb)
                     have n5_ := Aside0.mk (blk_below (g := gb446) (o := .cells #[.slice none 0 0, .slice none 0 0, .slice none 0 0, .int .i64 0, .int .i64 0] 31 (0, 0)) (by (with_reducible repeat (first | refine blk_drewN ?_ _ | refine blk_drew ?_ | refine blk_alloc ?_ _)); exact BK446.out) hb)
                     have n6_ := Aside0.mk (below_step (by repeat (first | (with_reducible first | exact HB.out | apply below_alloc | apply pw_below_drewN | apply below_drew1 | refine below_set ?_ GE421.out | refine below_set ?_ GE446.out) | exact HB.out)) hb)
                     clear HO424
                     clear HO428
                     clear HO432
                     clear BK421
                     clear BK446
                     clear HB
                     have HO424 := n0_
                     have HO428 := n1_
                     have HO432 := n2_
                     have HO439 := n3_
                     have BK421 := n4_
                     have BK446 := n5_
                     have HB := n6_
                     clear n0_ n1_ n2_ n3_ n4_ n5_ n6_
                     (try clear hb)
                     (try clear hb2)
                     (try clear hk)
                     (try clear hi)
                     (try clear ho0)
                     refine hK.out _ _ ⟨HS0_, HS1_, HS2_, HS3_⟩ (fun hHeld => ?_)
                     clear hK K
                     refine norm_ (a' := ?_) ?_ ?_
                     rotate_left
                     ·show Act.put _ (some 31) _ = _
                      simp only [Act.put, qa_, qz_, qs_, i64_w, i32_w]
                      rfl
                     exact norm_ (by first | (simp only [putAll, Act.put, qa_, qz_, qs_]; done) | (simp only [putAll, Act.put, qa_, qz_, qs_]; rfl)) (hJ4_16 (v438, gb446) _ ⟨hHeld, (by (with_reducible repeat (first | apply Kd.R_alloc | apply Kd.R_drewN | apply Kd.R_drew)); exact HO424.out), (by (with_reducible repeat (first | apply Kd.R_alloc | apply Kd.R_drewN | apply Kd.R_drew)); exact HO428.out), (by (with_reducible repeat (first | apply Kd.R_alloc | apply Kd.R_drewN | apply Kd.R_drew)); exact HO432.out), (by (with_reducible repeat (first | apply Kd.R_alloc | apply Kd.R_drewN | apply Kd.R_drew)); exact Kd.R_mono HO439.out (fun _ hk => ⟨hk.1.2, hk.2⟩)), (by (with_reducible repeat (first | refine blk_drewN ?_ _ | refine blk_drew ?_ | refine blk_alloc ?_ _)); exact BK421.out), (by (with_reducible repeat (first | refine blk_drewN ?_ _ | refine blk_drew ?_ | refine blk_alloc ?_ _)); exact BK446.out), GW446.out, GE446.out, NB421_446.out, NB446_421.out, (by repeat (first | (with_reducible first | exact HB.out | apply below_alloc | apply pw_below_drewN | apply below_drew1 | refine below_set ?_ GE421.out | refine below_set ?_ GE446.out) | exact HB.out))⟩)
                  ·skip
                   rintro v438 w23 ⟨hS_, h0_, h1_, h2_, h3_, h4_, h5_⟩
                   have n0_ : Aside0 (Kd.R Kd.string 9 w23 w.heap.size (fun _ => True) (.slice (some ad425) t422.length co17) t422) := ⟨h0_⟩
                   have n1_ : Aside0 (Kd.R (Kd.int .i64) 2 w23 w.heap.size (fun k_ => some k_ ≠ (.slice (some ad444) t430.length co20 : Value).ownBlock ∧ some k_ ≠ (v438 : Value).ownBlock) v427 t426) := ⟨h1_⟩
                   have n2_ : Aside0 (Kd.R (Kd.int .i64) 2 w23 w.heap.size (fun k_ => some k_ ≠ (v427 : Value).ownBlock ∧ some k_ ≠ (v438 : Value).ownBlock) (.slice (some ad444) t430.length co20) t430) := ⟨h2_⟩
                   have n3_ : Aside0 (Kd.R (Kd.int .i64) 2 w23 w.heap.size (fun k_ => some k_ ≠ (v427 : Value).ownBlock ∧ some k_ ≠ (.slice (some ad444) t430.length co20 : Value).ownBlock) v438 t437) := ⟨h3_⟩
                   have n4_ : Aside0 (w23.heap[gb421]? = some (.cells #[.slice none 0 0, .slice none 0 0, .slice none 0 0, .int .i64 0, .int .i64 0] 31 (0, 0))) := ⟨h4_⟩
                   have n5_ : Aside0 (Below w.heap.size w w23) := ⟨h5_⟩
                   clear HO424
                   clear HO428
                   clear HO432
                   clear BK421
                   clear HB
                   clear h0_ h1_ h2_ h3_ h4_ h5_
                   have HO424 := n0_
                   have HO428 := n1_
                   have HO432 := n2_
                   have HO439 := n3_
                   have BK421 := n4_
                   have HB := n5_
                   clear n0_ n1_ n2_ n3_ n4_ n5_
                   have hHeld : w23.cell? ⟨ad425.block, ad425.off + 1, none⟩ = some (.string (rdOf ByteArray.empty t422 1)) ∧ w23.cell? ⟨ad425.block, ad425.off + 2, none⟩ = some (.string (rdOf ByteArray.empty t422 2)) ∧ w23.cell? ad444 = some (.int .i64 (rd t430 0)) ∧ w23.cell? ⟨ad444.block, ad444.off + 1, none⟩ = some (.int .i64 (rd t430 1)) := hS_
                   refine norm_ (a' := ?_) ?_ ?_
                   rotate_left
                   ·simp only [putAll, Act.put, qa_, qz_, qs_]
                    rfl
                   refine three_ (i := 0) (j := 8) (k := 16) (Ni := some 27) (Nj := some 35) (Nk := some 7) m17_17 m17_19 m17_20 rfl rfl rfl rfl rfl rfl (three_of HT_.out (by kernel_rfl)) (by decide) (by decide) (by decide) (fun K hK => ?_) (fun K hK => ?_) (fun K hK => ?_)
                   ·skip
                    refine Kd.R_lit_step k77 _ 77 ?hg (N := 27) ?hd (xs := ([] : List (S77))) (inner := []) (ok := fun _ => True) (okp := fun _ => True) ?hr ?hp (fun _ hk => hk) trivial (Below.refl _ _) (Nat.le_refl _) (by simp) ?_; (case hd => rfl); (case hg => rfl); (case hr => first | (go_simp; done) | (go_simp; rfl)); (case hp => exact (Reps.none _ _))
                    intro v434 w24 ho25 hb hg_ hnew_
                    have HS0_ := (hb.cell (World.block_lt_of_cell? _ _ (hHeld.1))).trans (hHeld.1)
                    have HS1_ := (hb.cell (World.block_lt_of_cell? _ _ (hHeld.2.1))).trans (hHeld.2.1)
                    have HS2_ := (hb.cell (World.block_lt_of_cell? _ _ (hHeld.2.2.1))).trans (hHeld.2.2.1)
                    have HS3_ := (hb.cell (World.block_lt_of_cell? _ _ (hHeld.2.2.2))).trans (hHeld.2.2.2)
                    clear hg_ hnew_
                    (first | rw [← Ny433.out] at ho25 | (simp only [Int.reduceToNat] at ho25; rw [← Ny433.out] at ho25))
                    have n0_ := Aside0.mk (Kd.R_below (by (with_reducible repeat (first | apply Kd.R_alloc | apply Kd.R_drewN | apply Kd.R_drew)); exact HO424.out) hb)
                    have n1_ := Aside0.mk (Kd.R_below (by (with_reducible repeat (first | apply Kd.R_alloc | apply Kd.R_drewN | apply Kd.R_drew)); exact HO428.out) hb)
                    have n2_ := Aside0.mk (Kd.R_below (by (with_reducible repeat (first | apply Kd.R_alloc | apply Kd.R_drewN | apply Kd.R_drew)); exact HO432.out) hb)
                    have n3_ := Aside0.mk (Kd.R_below (by (with_reducible repeat (first | apply Kd.R_alloc | apply Kd.R_drewN | apply Kd.R_drew)); exact HO439.out) hb)
                    have n4_ := Aside0.mk (Kd.R_lower ho25 (below_size (by repeat (first | (with_reducible first | exact HB.out | apply below_alloc | apply pw_below_drewN | apply below_drew1 | refine below_set ?_ GE421.out) | exact HB.out))))
                    have n5_ := Aside0.mk (blk_below (g := gb421) (o := .cells #[.slice none 0 0, .slice none 0 0, .slice none 0 0, .int .i64 0, .int .i64 0] 31 (0, 0)) (by (with_reducible repeat (first | refine blk_drewN ?_ _ | refine blk_drew ?_ | refine blk_alloc ?_ _)); exact BK421.out) hb)
                    have n6_ := Aside0.mk (below_step (by repeat (first | (with_reducible first | exact HB.out | apply below_alloc | apply pw_below_drewN | apply below_drew1 | refine below_set ?_ GE421.out) | exact HB.out)) hb)
                    clear HO424
                    clear HO428
                    clear HO432
                    clear HO439
                    clear BK421
                    clear HB
                    have HO424 := n0_
                    have HO428 := n1_
                    have HO432 := n2_
                    have HO439 := n3_
                    have HO435 := n4_
                    have BK421 := n5_
                    have HB := n6_
                    clear n0_ n1_ n2_ n3_ n4_ n5_ n6_
                    clear hb ho25
                    refine hK.out _ _ ⟨HS0_, HS1_, HS2_, HS3_⟩ (fun hHeld => ?_)
                    clear hK K
                    refine norm_ (a' := ?_) ?_ ?_
                    rotate_left
                    ·show Act.put _ (some 27) _ = _
                     simp only [Act.put, qa_, qz_, qs_, i64_w, i32_w]
                     rfl
                    exact norm_ (by first | (simp only [putAll, Act.put, qa_, qz_, qs_]; done) | (simp only [putAll, Act.put, qa_, qz_, qs_]; rfl)) (hJ0_4 (v434, v438) _ ⟨hHeld, (by (with_reducible repeat (first | apply Kd.R_alloc | apply Kd.R_drewN | apply Kd.R_drew)); exact HO424.out), (by (with_reducible repeat (first | apply Kd.R_alloc | apply Kd.R_drewN | apply Kd.R_drew)); exact HO428.out), (by (with_reducible repeat (first | apply Kd.R_alloc | apply Kd.R_drewN | apply Kd.R_drew)); exact HO432.out), (by (with_reducible repeat (first | apply Kd.R_alloc | apply Kd.R_drewN | apply Kd.R_drew)); exact HO435.out), (by (with_reducible repeat (first | apply Kd.R_alloc | apply Kd.R_drewN | apply Kd.R_drew)); exact HO439.out), (by (with_reducible repeat (first | refine blk_drewN ?_ _ | refine blk_drew ?_ | refine blk_alloc ?_ _)); exact BK421.out), (by repeat (first | (with_reducible first | exact HB.out | apply below_alloc | apply pw_below_drewN | apply below_drew1 | refine below_set ?_ GE421.out) | exact HB.out))⟩)
                   ·skip
                    refine goes_ Tryd.func45 (by kernel_rfl) rfl #[.string (rdOf ByteArray.empty t422 2)] (by rfl) rfl rfl (by (try simp only [List.map_toArray, List.map_cons, List.map_nil]); first | done | rfl) ?_
                    with_reducible refine (spec_l02Numbers.calls k (rdOf ByteArray.empty t422 2) t441 _ A12.out).mono ?_
                    rintro e w24 ⟨v442, rfl, ho0, hb⟩
                    have HS0_ := (hb.cell (World.block_lt_of_cell? _ _ (hHeld.1))).trans (hHeld.1)
                    have HS1_ := (hb.cell (World.block_lt_of_cell? _ _ (hHeld.2.1))).trans (hHeld.2.1)
                    have HS2_ := (hb.cell (World.block_lt_of_cell? _ _ (hHeld.2.2.1))).trans (hHeld.2.2.1)
                    have HS3_ := (hb.cell (World.block_lt_of_cell? _ _ (hHeld.2.2.2))).trans (hHeld.2.2.2)
                    refine ⟨_, rfl, ?_⟩
                    have n0_ := Aside0.mk (Kd.R_below (by (with_reducible repeat (first | apply Kd.R_alloc | apply Kd.R_drewN | apply Kd.R_drew)); exact HO424.out) hb)
                    have n1_ := Aside0.mk (Kd.R_elder' (by (with_reducible repeat (first | apply Kd.R_alloc | apply Kd.R_drewN | apply Kd.R_drew)); exact HO428.out) (Kd.R_base ho0) hb)
                    have n2_ := Aside0.mk (Kd.R_elder' (by (with_reducible repeat (first | apply Kd.R_alloc | apply Kd.R_drewN | apply Kd.R_drew)); exact HO432.out) (Kd.R_base ho0) hb)
                    have n3_ := Aside0.mk (Kd.R_elder' (by (with_reducible repeat (first | apply Kd.R_alloc | apply Kd.R_drewN | apply Kd.R_drew)); exact HO439.out) (Kd.R_base ho0) hb)
                    have n4_ := Aside0.mk (Kd.R_lower (Kd.R_new' (Kd.R_new' (Kd.R_new' ho0 (Kd.R_lt (by (with_reducible repeat (first | apply Kd.R_alloc | apply Kd.R_drewN | apply Kd.R_drew)); exact HO428.out))) (Kd.R_lt (by (with_reducible repeat (first | apply Kd.R_alloc | apply Kd.R_drewN | apply Kd.R_drew)); exact HO432.out))) (Kd.R_lt (by (with_reducible repeat (first | apply Kd.R_alloc | apply Kd.R_drewN | apply Kd.R_drew)); exact HO439.out))) (below_size (by repeat (first | (with_reducible first | exact HB.out | apply below_alloc | apply pw_below_drewN | apply below_drew1 | refine below_set ?_ GE421.out) | exact HB.out))))
                    have n5_ := Aside0.mk (blk_below (g := gb421) (o := .cells #[.slice none 0 0, .slice none 0 0, .slice none 0 0, .int .i64 0, .int .i64 0] 31 (0, 0)) (by (with_reducible repeat (first | refine blk_drewN ?_ _ | refine blk_drew ?_ | refine blk_alloc ?_ _)); exact BK421.out) hb)
                    have n6_ := Aside0.mk (below_step (by repeat (first | (with_reducible first | exact HB.out | apply below_alloc | apply pw_below_drewN | apply below_drew1 | refine below_set ?_ GE421.out) | exact HB.out)) hb)
                    clear HO424
                    clear HO428
                    clear HO432
                    clear HO439
                    clear BK421
                    clear HB
                    have HO424 := n0_
                    have HO428 := n1_
                    have HO432 := n2_
                    have HO439 := n3_
                    have HO443 := n4_
                    have BK421 := n5_
                    have HB := n6_
                    clear n0_ n1_ n2_ n3_ n4_ n5_ n6_
                    (try clear hb)
                    (try clear hb2)
                    (try clear hk)
                    (try clear hi)
                    (try clear ho0)
                    refine hK.out _ _ ⟨HS0_, HS1_, HS2_, HS3_⟩ (fun hHeld => ?_)
                    clear hK K
                    refine norm_ (a' := ?_) ?_ ?_
                    rotate_left
                    ·show Act.put _ (some 35) _ = _
                     simp only [Act.put, qa_, qz_, qs_, i64_w, i32_w]
                     rfl
                    exact norm_ (by first | (simp only [putAll, Act.put, qa_, qz_, qs_]; done) | (simp only [putAll, Act.put, qa_, qz_, qs_]; rfl)) (hJ4_8 (v438, v442) _ ⟨hHeld, (by (with_reducible repeat (first | apply Kd.R_alloc | apply Kd.R_drewN | apply Kd.R_drew)); exact HO424.out), (by (with_reducible repeat (first | apply Kd.R_alloc | apply Kd.R_drewN | apply Kd.R_drew)); exact Kd.R_mono HO428.out (fun _ hk => ⟨hk.1.1, ⟨hk.1.2, hk.2⟩⟩)), (by (with_reducible repeat (first | apply Kd.R_alloc | apply Kd.R_drewN | apply Kd.R_drew)); exact Kd.R_mono HO432.out (fun _ hk => ⟨hk.1.1, ⟨hk.1.2, hk.2⟩⟩)), (by (with_reducible repeat (first | apply Kd.R_alloc | apply Kd.R_drewN | apply Kd.R_drew)); exact Kd.R_mono HO439.out (fun _ hk => ⟨hk.1.1, ⟨hk.1.2, hk.2⟩⟩)), (by (with_reducible repeat (first | apply Kd.R_alloc | apply Kd.R_drewN | apply Kd.R_drew)); exact Kd.R_mono HO443.out (fun _ hk => ⟨hk.1.1.2, ⟨hk.1.2, hk.2⟩⟩)), (by (with_reducible repeat (first | refine blk_drewN ?_ _ | refine blk_drew ?_ | refine blk_alloc ?_ _)); exact BK421.out), (by repeat (first | (with_reducible first | exact HB.out | apply below_alloc | apply pw_below_drewN | apply below_drew1 | refine below_set ?_ GE421.out) | exact HB.out))⟩)
                   ·skip
                    refine box_step ?hg (N := 7) ?hd (cs := #[.slice none 0 0, .slice none 0 0, .slice none 0 0, .int .i64 0, .int .i64 0]) (t := 31) ?hr ?_; (case hd => rfl); (case hg => rfl); (case hr => first | (go_simp; done) | (go_simp; rfl))
                    intro gb446 hg w24 hbox hb
                    have HS0_ := (hb.cell (World.block_lt_of_cell? _ _ (hHeld.1))).trans (hHeld.1)
                    have HS1_ := (hb.cell (World.block_lt_of_cell? _ _ (hHeld.2.1))).trans (hHeld.2.1)
                    have HS2_ := (hb.cell (World.block_lt_of_cell? _ _ (hHeld.2.2.1))).trans (hHeld.2.2.1)
                    have HS3_ := (hb.cell (World.block_lt_of_cell? _ _ (hHeld.2.2.2))).trans (hHeld.2.2.2)
                    have n0_ := Aside0.mk (Kd.R_below (by (with_reducible repeat (first | apply Kd.R_alloc | apply Kd.R_drewN | apply Kd.R_drew)); exact HO424.out) hb)
                    have n1_ := Aside0.mk (Kd.R_below (by (with_reducible repeat (first | apply Kd.R_alloc | apply Kd.R_drewN | apply Kd.R_drew)); exact HO428.out) hb)
                    have n2_ := Aside0.mk (Kd.R_below (by (with_reducible repeat (first | apply Kd.R_alloc | apply Kd.R_drewN | apply Kd.R_drew)); exact HO432.out) hb)
                    have n3_ := Aside0.mk (Kd.R_below (by (with_reducible repeat (first | apply Kd.R_alloc | apply Kd.R_drewN | apply Kd.R_drew)); exact HO439.out) hb)
                    have n4_ := Aside0.mk (blk_below (g := gb421) (o := .cells #[.slice none 0 0, .slice none 0 0, .slice none 0 0, .int .i64 0, .int .i64 0] 31 (0, 0)) (by (with_reducible repeat (first | refine blk_drewN ?_ _ | refine blk_drew ?_ | refine blk_alloc ?_ _)); exact BK421.out) hb)
                    have n5_ := Aside0.mk (below_step (by repeat (first | (with_reducible first | exact HB.out | apply below_alloc | apply pw_below_drewN | apply below_drew1 | refine below_set ?_ GE421.out) | exact HB.out)) hb)
                    have n6_ := Aside0.mk (hbox)
                    have n7_ := Aside0.mk ((by rw [hg]; exact (below_size (by repeat (first | (with_reducible first | exact HB.out | apply below_alloc | apply pw_below_drewN | apply below_drew1 | refine below_set ?_ GE421.out) | exact HB.out))) : w.heap.size ≤ gb446))
                    have n8_ := Aside0.mk ((by rw [hg]; exact (below_size (by repeat (first | (with_reducible first | exact HB.out | apply below_alloc | apply pw_below_drewN | apply below_drew1 | refine below_set ?_ GE421.out) | exact HB.out))) : w.heap.size ≤ gb446))
                    have n9_ := Aside0.mk ((by rw [hg]; exact Nat.ne_of_lt (blk_lt (g := gb421) (o := .cells #[.slice none 0 0, .slice none 0 0, .slice none 0 0, .int .i64 0, .int .i64 0] 31 (0, 0)) (by (with_reducible repeat (first | refine blk_drewN ?_ _ | refine blk_drew ?_ | refine blk_alloc ?_ _)); exact BK421.out)) : gb421 ≠ gb446))
                    have n10_ := Aside0.mk ((by rw [hg]; exact Nat.ne_of_gt (blk_lt (g := gb421) (o := .cells #[.slice none 0 0, .slice none 0 0, .slice none 0 0, .int .i64 0, .int .i64 0] 31 (0, 0)) (by (with_reducible repeat (first | refine blk_drewN ?_ _ | refine blk_drew ?_ | refine blk_alloc ?_ _)); exact BK421.out)) : gb446 ≠ gb421))
                    clear HO424
                    clear HO428
                    clear HO432
                    clear HO439
                    clear BK421
                    clear HB
                    have HO424 := n0_
                    have HO428 := n1_
                    have HO432 := n2_
                    have HO439 := n3_
                    have BK421 := n4_
                    have HB := n5_
                    have BK446 := n6_
                    have GW446 := n7_
                    have GE446 := n8_
                    have NB421_446 := n9_
                    have NB446_421 := n10_
                    clear n0_ n1_ n2_ n3_ n4_ n5_ n6_ n7_ n8_ n9_ n10_
                    clear hb hbox hg
                    refine hK.out _ _ ⟨HS0_, HS1_, HS2_, HS3_⟩ (fun hHeld => ?_)
                    clear hK K
                    refine norm_ (a' := ?_) ?_ ?_
                    rotate_left
                    ·show Act.put _ (some 7) _ = _
                     simp only [Act.put, qa_, qz_, qs_, i64_w, i32_w]
                     rfl
                    exact norm_ (by first | (simp only [putAll, Act.put, qa_, qz_, qs_]; done) | (simp only [putAll, Act.put, qa_, qz_, qs_]; rfl)) (hJ4_16 (v438, gb446) _ ⟨hHeld, (by (with_reducible repeat (first | apply Kd.R_alloc | apply Kd.R_drewN | apply Kd.R_drew)); exact HO424.out), (by (with_reducible repeat (first | apply Kd.R_alloc | apply Kd.R_drewN | apply Kd.R_drew)); exact HO428.out), (by (with_reducible repeat (first | apply Kd.R_alloc | apply Kd.R_drewN | apply Kd.R_drew)); exact HO432.out), (by (with_reducible repeat (first | apply Kd.R_alloc | apply Kd.R_drewN | apply Kd.R_drew)); exact HO439.out), (by (with_reducible repeat (first | refine blk_drewN ?_ _ | refine blk_drew ?_ | refine blk_alloc ?_ _)); exact BK421.out), (by (with_reducible repeat (first | refine blk_drewN ?_ _ | refine blk_drew ?_ | refine blk_alloc ?_ _)); exact BK446.out), GW446.out, GE446.out, NB421_446.out, NB446_421.out, (by repeat (first | (with_reducible first | exact HB.out | apply below_alloc | apply pw_below_drewN | apply below_drew1 | refine below_set ?_ GE421.out | refine below_set ?_ GE446.out) | exact HB.out))⟩)
                 ·skip
                  rintro v434 w24 ⟨hS_, h0_, h1_, h2_, h3_, h4_, h5_⟩
                  have n0_ : Aside0 (Kd.R Kd.string 9 w24 w.heap.size (fun _ => True) (.slice (some ad425) t422.length co17) t422) := ⟨h0_⟩
                  have n1_ : Aside0 (Kd.R (Kd.int .i64) 2 w24 w.heap.size (fun k_ => some k_ ≠ (.slice (some ad444) t430.length co20 : Value).ownBlock) v427 t426) := ⟨h1_⟩
                  have n2_ : Aside0 (Kd.R (Kd.int .i64) 2 w24 w.heap.size (fun k_ => some k_ ≠ (v427 : Value).ownBlock) (.slice (some ad444) t430.length co20) t430) := ⟨h2_⟩
                  have n3_ : Aside0 (Kd.R k77 77 w24 w.heap.size (fun _ => True) v434 y433) := ⟨h3_⟩
                  have n4_ : Aside0 (w24.heap[gb421]? = some (.cells #[.slice none 0 0, .slice none 0 0, .slice none 0 0, .int .i64 0, .int .i64 0] 31 (0, 0))) := ⟨h4_⟩
                  have n5_ : Aside0 (Below w.heap.size w w24) := ⟨h5_⟩
                  clear HO424
                  clear HO428
                  clear HO432
                  clear BK421
                  clear HB
                  clear h0_ h1_ h2_ h3_ h4_ h5_
                  have HO424 := n0_
                  have HO428 := n1_
                  have HO432 := n2_
                  have HO435 := n3_
                  have BK421 := n4_
                  have HB := n5_
                  clear n0_ n1_ n2_ n3_ n4_ n5_
                  have hHeld : w24.cell? ⟨ad425.block, ad425.off + 1, none⟩ = some (.string (rdOf ByteArray.empty t422 1)) ∧ w24.cell? ⟨ad425.block, ad425.off + 2, none⟩ = some (.string (rdOf ByteArray.empty t422 2)) ∧ w24.cell? ad444 = some (.int .i64 (rd t430 0)) ∧ w24.cell? ⟨ad444.block, ad444.off + 1, none⟩ = some (.int .i64 (rd t430 1)) := hS_
                  refine norm_ (a' := ?_) ?_ ?_
                  rotate_left
                  ·simp only [putAll, Act.put, qa_, qz_, qs_]
                   rfl
                  refine two_ (i := 4) (j := 16) (Ni := some 31) (Nj := some 7) m17_17 m17_18 rfl rfl rfl rfl (two_of HT_.out (by kernel_rfl)) (by decide) (by decide) (fun K hK => ?_) (fun K hK => ?_)
                  ·skip
                   refine goes_ Tryd.func45 (by kernel_rfl) rfl #[.string (rdOf ByteArray.empty t422 1)] (by rfl) rfl rfl (by (try simp only [List.map_toArray, List.map_cons, List.map_nil]); first | done | rfl) ?_
                   with_reducible refine (spec_l02Numbers.calls k (rdOf ByteArray.empty t422 1) t437 _ A10.out).mono ?_
                   rintro e w25 ⟨v438, rfl, ho0, hb⟩
                   have HS0_ := (hb.cell (World.block_lt_of_cell? _ _ (hHeld.1))).trans (hHeld.1)
                   have HS1_ := (hb.cell (World.block_lt_of_cell? _ _ (hHeld.2.1))).trans (hHeld.2.1)
                   have HS2_ := (hb.cell (World.block_lt_of_cell? _ _ (hHeld.2.2.1))).trans (hHeld.2.2.1)
                   have HS3_ := (hb.cell (World.block_lt_of_cell? _ _ (hHeld.2.2.2))).trans (hHeld.2.2.2)
                   refine ⟨_, rfl, ?_⟩
                   have n0_ := Aside0.mk (Kd.R_below (by (with_reducible repeat (first | apply Kd.R_alloc | apply Kd.R_drewN | apply Kd.R_drew)); exact HO424.out) hb)
                   have n1_ := Aside0.mk (Kd.R_elder' (by (with_reducible repeat (first | apply Kd.R_alloc | apply Kd.R_drewN | apply Kd.R_drew)); exact HO428.out) (Kd.R_base ho0) hb)
                   have n2_ := Aside0.mk (Kd.R_elder' (by (with_reducible repeat (first | apply Kd.R_alloc | apply Kd.R_drewN | apply Kd.R_drew)); exact HO432.out) (Kd.R_base ho0) hb)
                   have n3_ := Aside0.mk (Kd.R_below (by (with_reducible repeat (first | apply Kd.R_alloc | apply Kd.R_drewN | apply Kd.R_drew)); exact HO435.out) hb)
                   have n4_ := Aside0.mk (Kd.R_lower (Kd.R_new' (Kd.R_new' ho0 (Kd.R_lt (by (with_reducible repeat (first | apply Kd.R_alloc | apply Kd.R_drewN | apply Kd.R_drew)); exact HO428.out))) (Kd.R_lt (by (with_reducible repeat (first | apply Kd.R_alloc | apply Kd.R_drewN | apply Kd.R_drew)); exact HO432.out))) (below_size (by repeat (first | (with_reducible first | exact HB.out | apply below_alloc | apply pw_below_drewN | apply below_drew1 | refine below_set ?_ GE421.out) | exact HB.out))))
                   have n5_ := Aside0.mk (blk_below (g := gb421) (o := .cells #[.slice none 0 0, .slice none 0 0, .slice none 0 0, .int .i64 0, .int .i64 0] 31 (0, 0)) (by (with_reducible repeat (first | refine blk_drewN ?_ _ | refine blk_drew ?_ | refine blk_alloc ?_ _)); exact BK421.out) hb)
                   have n6_ := Aside0.mk (below_step (by repeat (first | (with_reducible first | exact HB.out | apply below_alloc | apply pw_below_drewN | apply below_drew1 | refine below_set ?_ GE421.out) | exact HB.out)) hb)
                   clear HO424
                   clear HO428
                   clear HO432
                   clear HO435
                   clear BK421
                   clear HB
                   have HO424 := n0_
                   have HO428 := n1_
                   have HO432 := n2_
                   have HO435 := n3_
                   have HO439 := n4_
                   have BK421 := n5_
                   have HB := n6_
                   clear n0_ n1_ n2_ n3_ n4_ n5_ n6_
                   (try clear hb)
                   (try clear hb2)
                   (try clear hk)
                   (try clear hi)
                   (try clear ho0)
                   refine hK.out _ _ ⟨HS0_, HS1_, HS2_, HS3_⟩ (fun hHeld => ?_)
                   clear hK K
                   refine norm_ (a' := ?_) ?_ ?_
                   rotate_left
                   ·show Act.put _ (some 31) _ = _
                    simp only [Act.put, qa_, qz_, qs_, i64_w, i32_w]
                    rfl
                   exact norm_ (by first | (simp only [putAll, Act.put, qa_, qz_, qs_]; done) | (simp only [putAll, Act.put, qa_, qz_, qs_]; rfl)) (hJ0_4 (v434, v438) _ ⟨hHeld, (by (with_reducible repeat (first | apply Kd.R_alloc | apply Kd.R_drewN | apply Kd.R_drew)); exact HO424.out), (by (with_reducible repeat (first | apply Kd.R_alloc | apply Kd.R_drewN | apply Kd.R_drew)); exact HO428.out), (by (with_reducible repeat (first | apply Kd.R_alloc | apply Kd.R_drewN | apply Kd.R_drew)); exact HO432.out), (by (with_reducible repeat (first | apply Kd.R_alloc | apply Kd.R_drewN | apply Kd.R_drew)); exact HO435.out), (by (with_reducible repeat (first | apply Kd.R_alloc | apply Kd.R_drewN | apply Kd.R_drew)); exact Kd.R_mono HO439.out (fun _ hk => ⟨hk.1.2, hk.2⟩)), (by (with_reducible repeat (first | refine blk_drewN ?_ _ | refine blk_drew ?_ | refine blk_alloc ?_ _)); exact BK421.out), (by repeat (first | (with_reducible first | exact HB.out | apply below_alloc | apply pw_below_drewN | apply below_drew1 | refine below_set ?_ GE421.out) | exact HB.out))⟩)
                  ·skip
                   refine box_step ?hg (N := 7) ?hd (cs := #[.slice none 0 0, .slice none 0 0, .slice none 0 0, .int .i64 0, .int .i64 0]) (t := 31) ?hr ?_; (case hd => rfl); (case hg => rfl); (case hr => first | (go_simp; done) | (go_simp; rfl))
                   intro gb446 hg w25 hbox hb
                   have HS0_ := (hb.cell (World.block_lt_of_cell? _ _ (hHeld.1))).trans (hHeld.1)
                   have HS1_ := (hb.cell (World.block_lt_of_cell? _ _ (hHeld.2.1))).trans (hHeld.2.1)
                   have HS2_ := (hb.cell (World.block_lt_of_cell? _ _ (hHeld.2.2.1))).trans (hHeld.2.2.1)
                   have HS3_ := (hb.cell (World.block_lt_of_cell? _ _ (hHeld.2.2.2))).trans (hHeld.2.2.2)
                   have n0_ := Aside0.mk (Kd.R_below (by (with_reducible repeat (first | apply Kd.R_alloc | apply Kd.R_drewN | apply Kd.R_drew)); exact HO424.out) hb)
                   have n1_ := Aside0.mk (Kd.R_below (by (with_reducible repeat (first | apply Kd.R_alloc | apply Kd.R_drewN | apply Kd.R_drew)); exact HO428.out) hb)
                   have n2_ := Aside0.mk (Kd.R_below (by (with_reducible repeat (first | apply Kd.R_alloc | apply Kd.R_drewN | apply Kd.R_drew)); exact HO432.out) hb)
                   have n3_ := Aside0.mk (Kd.R_below (by (with_reducible repeat (first | apply Kd.R_alloc | apply Kd.R_drewN | apply Kd.R_drew)); exact HO435.out) hb)
                   have n4_ := Aside0.mk (blk_below (g := gb421) (o := .cells #[.slice none 0 0, .slice none 0 0, .slice none 0 0, .int .i64 0, .int .i64 0] 31 (0, 0)) (by (with_reducible repeat (first | refine blk_drewN ?_ _ | refine blk_drew ?_ | refine blk_alloc ?_ _)); exact BK421.out) hb)
                   have n5_ := Aside0.mk (below_step (by repeat (first | (with_reducible first | exact HB.out | apply below_alloc | apply pw_below_drewN | apply below_drew1 | refine below_set ?_ GE421.out) | exact HB.out)) hb)
                   have n6_ := Aside0.mk (hbox)
                   have n7_ := Aside0.mk ((by rw [hg]; exact (below_size (by repeat (first | (with_reducible first | exact HB.out | apply below_alloc | apply pw_below_drewN | apply below_drew1 | refine below_set ?_ GE421.out) | exact HB.out))) : w.heap.size ≤ gb446))
                   have n8_ := Aside0.mk ((by rw [hg]; exact (below_size (by repeat (first | (with_reducible first | exact HB.out | apply below_alloc | apply pw_below_drewN | apply below_drew1 | refine below_set ?_ GE421.out) | exact HB.out))) : w.heap.size ≤ gb446))
                   have n9_ := Aside0.mk ((by rw [hg]; exact Nat.ne_of_lt (blk_lt (g := gb421) (o := .cells #[.slice none 0 0, .slice none 0 0, .slice none 0 0, .int .i64 0, .int .i64 0] 31 (0, 0)) (by (with_reducible repeat (first | refine blk_drewN ?_ _ | refine blk_drew ?_ | refine blk_alloc ?_ _)); exact BK421.out)) : gb421 ≠ gb446))
                   have n10_ := Aside0.mk ((by rw [hg]; exact Nat.ne_of_gt (blk_lt (g := gb421) (o := .cells #[.slice none 0 0, .slice none 0 0, .slice none 0 0, .int .i64 0, .int .i64 0] 31 (0, 0)) (by (with_reducible repeat (first | refine blk_drewN ?_ _ | refine blk_drew ?_ | refine blk_alloc ?_ _)); exact BK421.out)) : gb446 ≠ gb421))
                   clear HO424
                   clear HO428
                   clear HO432
                   clear HO435
                   clear BK421
                   clear HB
                   have HO424 := n0_
                   have HO428 := n1_
                   have HO432 := n2_
                   have HO435 := n3_
                   have BK421 := n4_
                   have HB := n5_
                   have BK446 := n6_
                   have GW446 := n7_
                   have GE446 := n8_
                   have NB421_446 := n9_
                   have NB446_421 := n10_
                   clear n0_ n1_ n2_ n3_ n4_ n5_ n6_ n7_ n8_ n9_ n10_
                   clear hb hbox hg
                   refine hK.out _ _ ⟨HS0_, HS1_, HS2_, HS3_⟩ (fun hHeld => ?_)
                   clear hK K
                   refine norm_ (a' := ?_) ?_ ?_
                   rotate_left
                   ·show Act.put _ (some 7) _ = _
                    simp only [Act.put, qa_, qz_, qs_, i64_w, i32_w]
                    rfl
                   exact norm_ (by first | (simp only [putAll, Act.put, qa_, qz_, qs_]; done) | (simp only [putAll, Act.put, qa_, qz_, qs_]; rfl)) (hJ0_16 (v434, gb446) _ ⟨hHeld, (by (with_reducible repeat (first | apply Kd.R_alloc | apply Kd.R_drewN | apply Kd.R_drew)); exact HO424.out), (by (with_reducible repeat (first | apply Kd.R_alloc | apply Kd.R_drewN | apply Kd.R_drew)); exact HO428.out), (by (with_reducible repeat (first | apply Kd.R_alloc | apply Kd.R_drewN | apply Kd.R_drew)); exact HO432.out), (by (with_reducible repeat (first | apply Kd.R_alloc | apply Kd.R_drewN | apply Kd.R_drew)); exact HO435.out), (by (with_reducible repeat (first | refine blk_drewN ?_ _ | refine blk_drew ?_ | refine blk_alloc ?_ _)); exact BK421.out), (by (with_reducible repeat (first | refine blk_drewN ?_ _ | refine blk_drew ?_ | refine blk_alloc ?_ _)); exact BK446.out), GW446.out, GE446.out, NB421_446.out, NB446_421.out, (by repeat (first | (with_reducible first | exact HB.out | apply below_alloc | apply pw_below_drewN | apply below_drew1 | refine below_set ?_ GE421.out | refine below_set ?_ GE446.out) | exact HB.out))⟩)
                ·skip
                 rintro ⟨v438, gb446⟩ w24 ⟨hS_, h0_, h1_, h2_, h3_, h4_, h5_, h6_, h7_, h8_, h9_, h10_⟩
                 have n0_ : Aside0 (Kd.R Kd.string 9 w24 w.heap.size (fun _ => True) (.slice (some ad425) t422.length co17) t422) := ⟨h0_⟩
                 have n1_ : Aside0 (Kd.R (Kd.int .i64) 2 w24 w.heap.size (fun k_ => some k_ ≠ (.slice (some ad444) t430.length co20 : Value).ownBlock ∧ some k_ ≠ (v438 : Value).ownBlock) v427 t426) := ⟨h1_⟩
                 have n2_ : Aside0 (Kd.R (Kd.int .i64) 2 w24 w.heap.size (fun k_ => some k_ ≠ (v427 : Value).ownBlock ∧ some k_ ≠ (v438 : Value).ownBlock) (.slice (some ad444) t430.length co20) t430) := ⟨h2_⟩
                 have n3_ : Aside0 (Kd.R (Kd.int .i64) 2 w24 w.heap.size (fun k_ => some k_ ≠ (v427 : Value).ownBlock ∧ some k_ ≠ (.slice (some ad444) t430.length co20 : Value).ownBlock) v438 t437) := ⟨h3_⟩
                 have n4_ : Aside0 (w24.heap[gb421]? = some (.cells #[.slice none 0 0, .slice none 0 0, .slice none 0 0, .int .i64 0, .int .i64 0] 31 (0, 0))) := ⟨h4_⟩
                 have n5_ : Aside0 (w24.heap[gb446]? = some (.cells #[.slice none 0 0, .slice none 0 0, .slice none 0 0, .int .i64 0, .int .i64 0] 31 (0, 0))) := ⟨h5_⟩
                 have n6_ : Aside0 (w.heap.size ≤ gb446) := ⟨h6_⟩
                 have n7_ : Aside0 (w.heap.size ≤ gb446) := ⟨h7_⟩
                 have n8_ : Aside0 (gb421 ≠ gb446) := ⟨h8_⟩
                 have n9_ : Aside0 (gb446 ≠ gb421) := ⟨h9_⟩
                 have n10_ : Aside0 (Below w.heap.size w w24) := ⟨h10_⟩
                 clear HO424
                 clear HO428
                 clear HO432
                 clear BK421
                 clear HB
                 clear h0_ h1_ h2_ h3_ h4_ h5_ h6_ h7_ h8_ h9_ h10_
                 have HO424 := n0_
                 have HO428 := n1_
                 have HO432 := n2_
                 have HO439 := n3_
                 have BK421 := n4_
                 have BK446 := n5_
                 have GW446 := n6_
                 have GE446 := n7_
                 have NB421_446 := n8_
                 have NB446_421 := n9_
                 have HB := n10_
                 clear n0_ n1_ n2_ n3_ n4_ n5_ n6_ n7_ n8_ n9_ n10_
                 have hHeld : w24.cell? ⟨ad425.block, ad425.off + 1, none⟩ = some (.string (rdOf ByteArray.empty t422 1)) ∧ w24.cell? ⟨ad425.block, ad425.off + 2, none⟩ = some (.string (rdOf ByteArray.empty t422 2)) ∧ w24.cell? ad444 = some (.int .i64 (rd t430 0)) ∧ w24.cell? ⟨ad444.block, ad444.off + 1, none⟩ = some (.int .i64 (rd t430 1)) := hS_
                 refine norm_ (a' := ?_) ?_ ?_
                 rotate_left
                 ·simp only [putAll, Act.put, qa_, qz_, qs_]
                  rfl
                 refine two_ (i := 0) (j := 8) (Ni := some 27) (Nj := some 35) m17_15 m17_16 rfl rfl rfl rfl (two_of HT_.out (by kernel_rfl)) (by decide) (by decide) (fun K hK => ?_) (fun K hK => ?_)
                 ·skip
                  refine Kd.R_lit_step k77 _ 77 ?hg (N := 27) ?hd (xs := ([] : List (S77))) (inner := []) (ok := fun _ => True) (okp := fun _ => True) ?hr ?hp (fun _ hk => hk) trivial (Below.refl _ _) (Nat.le_refl _) (by simp) ?_; (case hd => rfl); (case hg => rfl); (case hr => first | (go_simp; done) | (go_simp; rfl)); (case hp => exact (Reps.none _ _))
                  intro v434 w25 ho26 hb hg_ hnew_
                  have HS0_ := (hb.cell (World.block_lt_of_cell? _ _ (hHeld.1))).trans (hHeld.1)
                  have HS1_ := (hb.cell (World.block_lt_of_cell? _ _ (hHeld.2.1))).trans (hHeld.2.1)
                  have HS2_ := (hb.cell (World.block_lt_of_cell? _ _ (hHeld.2.2.1))).trans (hHeld.2.2.1)
                  have HS3_ := (hb.cell (World.block_lt_of_cell? _ _ (hHeld.2.2.2))).trans (hHeld.2.2.2)
                  clear hg_ hnew_
                  (first | rw [← Ny433.out] at ho26 | (simp only [Int.reduceToNat] at ho26; rw [← Ny433.out] at ho26))
                  have n0_ := Aside0.mk (Kd.R_below (by (with_reducible repeat (first | apply Kd.R_alloc | apply Kd.R_drewN | apply Kd.R_drew)); exact HO424.out) hb)
                  have n1_ := Aside0.mk (Kd.R_below (by (with_reducible repeat (first | apply Kd.R_alloc | apply Kd.R_drewN | apply Kd.R_drew)); exact HO428.out) hb)
                  have n2_ := Aside0.mk (Kd.R_below (by (with_reducible repeat (first | apply Kd.R_alloc | apply Kd.R_drewN | apply Kd.R_drew)); exact HO432.out) hb)
                  have n3_ := Aside0.mk (Kd.R_below (by (with_reducible repeat (first | apply Kd.R_alloc | apply Kd.R_drewN | apply Kd.R_drew)); exact HO439.out) hb)
                  have n4_ := Aside0.mk (Kd.R_lower ho26 (below_size (by repeat (first | (with_reducible first | exact HB.out | apply below_alloc | apply pw_below_drewN | apply below_drew1 | refine below_set ?_ GE421.out | refine below_set ?_ GE446.out) | exact HB.out))))
                  have n5_ := Aside0.mk (blk_below (g := gb421) (o := .cells #[.slice none 0 0, .slice none 0 0, .slice none 0 0, .int .i64 0, .int .i64 0] 31 (0, 0)) (by (with_reducible repeat (first | refine blk_drewN ?_ _ | refine blk_drew ?_ | refine blk_alloc ?_ _)); exact BK421.out) hb)
                  have n6_ := Aside0.mk (blk_below (g := gb446) (o := .cells #[.slice none 0 0, .slice none 0 0, .slice none 0 0, .int .i64 0, .int .i64 0] 31 (0, 0)) (by (with_reducible repeat (first | refine blk_drewN ?_ _ | refine blk_drew ?_ | refine blk_alloc ?_ _)); exact BK446.out) hb)
                  have n7_ := Aside0.mk (below_step (by repeat (first | (with_reducible first | exact HB.out | apply below_alloc | apply pw_below_drewN | apply below_drew1 | refine below_set ?_ GE421.out | refine below_set ?_ GE446.out) | exact HB.out)) hb)
                  clear HO424
                  clear HO428
                  clear HO432
                  clear HO439
                  clear BK421
                  clear BK446
                  clear HB
                  have HO424 := n0_
                  have HO428 := n1_
                  have HO432 := n2_
                  have HO439 := n3_
                  have HO435 := n4_
                  have BK421 := n5_
                  have BK446 := n6_
                  have HB := n7_
                  clear n0_ n1_ n2_ n3_ n4_ n5_ n6_ n7_
                  clear hb ho26
                  refine hK.out _ _ ⟨HS0_, HS1_, HS2_, HS3_⟩ (fun hHeld => ?_)
                  clear hK K
                  refine norm_ (a' := ?_) ?_ ?_
                  rotate_left
                  ·show Act.put _ (some 27) _ = _
                   simp only [Act.put, qa_, qz_, qs_, i64_w, i32_w]
                   rfl
                  exact norm_ (by first | (simp only [putAll, Act.put, qa_, qz_, qs_]; done) | (simp only [putAll, Act.put, qa_, qz_, qs_]; rfl)) (hJ0_4_16 (v434, v438, gb446) _ ⟨hHeld, (by (with_reducible repeat (first | apply Kd.R_alloc | apply Kd.R_drewN | apply Kd.R_drew)); exact HO424.out), (by (with_reducible repeat (first | apply Kd.R_alloc | apply Kd.R_drewN | apply Kd.R_drew)); exact HO428.out), (by (with_reducible repeat (first | apply Kd.R_alloc | apply Kd.R_drewN | apply Kd.R_drew)); exact HO432.out), (by (with_reducible repeat (first | apply Kd.R_alloc | apply Kd.R_drewN | apply Kd.R_drew)); exact HO435.out), (by (with_reducible repeat (first | apply Kd.R_alloc | apply Kd.R_drewN | apply Kd.R_drew)); exact HO439.out), (by (with_reducible repeat (first | refine blk_drewN ?_ _ | refine blk_drew ?_ | refine blk_alloc ?_ _)); exact BK421.out), (by (with_reducible repeat (first | refine blk_drewN ?_ _ | refine blk_drew ?_ | refine blk_alloc ?_ _)); exact BK446.out), GW446.out, GE446.out, NB421_446.out, NB446_421.out, (by repeat (first | (with_reducible first | exact HB.out | apply below_alloc | apply pw_below_drewN | apply below_drew1 | refine below_set ?_ GE421.out | refine below_set ?_ GE446.out) | exact HB.out))⟩)
                 ·skip
                  refine goes_ Tryd.func45 (by kernel_rfl) rfl #[.string (rdOf ByteArray.empty t422 2)] (by rfl) rfl rfl (by (try simp only [List.map_toArray, List.map_cons, List.map_nil]); first | done | rfl) ?_
                  with_reducible refine (spec_l02Numbers.calls k (rdOf ByteArray.empty t422 2) t441 _ A12.out).mono ?_
                  rintro e w25 ⟨v442, rfl, ho0, hb⟩
                  have HS0_ := (hb.cell (World.block_lt_of_cell? _ _ (hHeld.1))).trans (hHeld.1)
                  have HS1_ := (hb.cell (World.block_lt_of_cell? _ _ (hHeld.2.1))).trans (hHeld.2.1)
                  have HS2_ := (hb.cell (World.block_lt_of_cell? _ _ (hHeld.2.2.1))).trans (hHeld.2.2.1)
                  have HS3_ := (hb.cell (World.block_lt_of_cell? _ _ (hHeld.2.2.2))).trans (hHeld.2.2.2)
                  refine ⟨_, rfl, ?_⟩
                  have n0_ := Aside0.mk (Kd.R_below (by (with_reducible repeat (first | apply Kd.R_alloc | apply Kd.R_drewN | apply Kd.R_drew)); exact HO424.out) hb)
                  have n1_ := Aside0.mk (Kd.R_elder' (by (with_reducible repeat (first | apply Kd.R_alloc | apply Kd.R_drewN | apply Kd.R_drew)); exact HO428.out) (Kd.R_base ho0) hb)
                  have n2_ := Aside0.mk (Kd.R_elder' (by (with_reducible repeat (first | apply Kd.R_alloc | apply Kd.R_drewN | apply Kd.R_drew)); exact HO432.out) (Kd.R_base ho0) hb)
                  have n3_ := Aside0.mk (Kd.R_elder' (by (with_reducible repeat (first | apply Kd.R_alloc | apply Kd.R_drewN | apply Kd.R_drew)); exact HO439.out) (Kd.R_base ho0) hb)
                  have n4_ := Aside0.mk (Kd.R_lower (Kd.R_new' (Kd.R_new' (Kd.R_new' ho0 (Kd.R_lt (by (with_reducible repeat (first | apply Kd.R_alloc | apply Kd.R_drewN | apply Kd.R_drew)); exact HO428.out))) (Kd.R_lt (by (with_reducible repeat (first | apply Kd.R_alloc | apply Kd.R_drewN | apply Kd.R_drew)); exact HO432.out))) (Kd.R_lt (by (with_reducible repeat (first | apply Kd.R_alloc | apply Kd.R_drewN | apply Kd.R_drew)); exact HO439.out))) (below_size (by repeat (first | (with_reducible first | exact HB.out | apply below_alloc | apply pw_below_drewN | apply below_drew1 | refine below_set ?_ GE421.out | refine below_set ?_ GE446.out) | exact HB.out))))
                  have n5_ := Aside0.mk (blk_below (g := gb421) (o := .cells #[.slice none 0 0, .slice none 0 0, .slice none 0 0, .int .i64 0, .int .i64 0] 31 (0, 0)) (by (with_reducible repeat (first | refine blk_drewN ?_ _ | refine blk_drew ?_ | refine blk_alloc ?_ _)); exact BK421.out) hb)
                  have n6_ := Aside0.mk (blk_below (g := gb446) (o := .cells #[.slice none 0 0, .slice none 0 0, .slice none 0 0, .int .i64 0, .int .i64 0] 31 (0, 0)) (by (with_reducible repeat (first | refine blk_drewN ?_ _ | refine blk_drew ?_ | refine blk_alloc ?_ _)); exact BK446.out) hb)
                  have n7_ := Aside0.mk (below_step (by repeat (first | (with_reducible first | exact HB.out | apply below_alloc | apply pw_below_drewN | apply below_drew1 | refine below_set ?_ GE421.out | refine below_set ?_ GE446.out) | exact HB.out)) hb)
                  clear HO424
                  clear HO428
                  clear HO432
                  clear HO439
                  clear BK421
                  clear BK446
                  clear HB
                  have HO424 := n0_
                  have HO428 := n1_
                  have HO432 := n2_
                  have HO439 := n3_
                  have HO443 := n4_
                  have BK421 := n5_
                  have BK446 := n6_
                  have HB := n7_
                  clear n0_ n1_ n2_ n3_ n4_ n5_ n6_ n7_
                  (try clear hb)
                  (try clear hb2)
                  (try clear hk)
                  (try clear hi)
                  (try clear ho0)
                  refine hK.out _ _ ⟨HS0_, HS1_, HS2_, HS3_⟩ (fun hHeld => ?_)
                  clear hK K
                  refine norm_ (a' := ?_) ?_ ?_
                  rotate_left
                  ·show Act.put _ (some 35) _ = _
                   simp only [Act.put, qa_, qz_, qs_, i64_w, i32_w]
                   rfl
                  exact norm_ (by first | (simp only [putAll, Act.put, qa_, qz_, qs_]; done) | (simp only [putAll, Act.put, qa_, qz_, qs_]; rfl)) (hJ4_8_16 (v438, v442, gb446) _ ⟨hHeld, (by (with_reducible repeat (first | apply Kd.R_alloc | apply Kd.R_drewN | apply Kd.R_drew)); exact HO424.out), (by (with_reducible repeat (first | apply Kd.R_alloc | apply Kd.R_drewN | apply Kd.R_drew)); exact Kd.R_mono HO428.out (fun _ hk => ⟨hk.1.1, ⟨hk.1.2, hk.2⟩⟩)), (by (with_reducible repeat (first | apply Kd.R_alloc | apply Kd.R_drewN | apply Kd.R_drew)); exact Kd.R_mono HO432.out (fun _ hk => ⟨hk.1.1, ⟨hk.1.2, hk.2⟩⟩)), (by (with_reducible repeat (first | apply Kd.R_alloc | apply Kd.R_drewN | apply Kd.R_drew)); exact Kd.R_mono HO439.out (fun _ hk => ⟨hk.1.1, ⟨hk.1.2, hk.2⟩⟩)), (by (with_reducible repeat (first | apply Kd.R_alloc | apply Kd.R_drewN | apply Kd.R_drew)); exact Kd.R_mono HO443.out (fun _ hk => ⟨hk.1.1.2, ⟨hk.1.2, hk.2⟩⟩)), (by (with_reducible repeat (first | refine blk_drewN ?_ _ | refine blk_drew ?_ | refine blk_alloc ?_ _)); exact BK421.out), (by (with_reducible repeat (first | refine blk_drewN ?_ _ | refine blk_drew ?_ | refine blk_alloc ?_ _)); exact BK446.out), GW446.out, GE446.out, NB421_446.out, NB446_421.out, (by repeat (first | (with_reducible first | exact HB.out | apply below_alloc | apply pw_below_drewN | apply below_drew1 | refine below_set ?_ GE421.out | refine below_set ?_ GE446.out) | exact HB.out))⟩)
               ·skip
                rintro ⟨v438, v442⟩ w24 ⟨hS_, h0_, h1_, h2_, h3_, h4_, h5_, h6_⟩
                have n0_ : Aside0 (Kd.R Kd.string 9 w24 w.heap.size (fun _ => True) (.slice (some ad425) t422.length co17) t422) := ⟨h0_⟩
                have n1_ : Aside0 (Kd.R (Kd.int .i64) 2 w24 w.heap.size (fun k_ => some k_ ≠ (.slice (some ad444) t430.length co20 : Value).ownBlock ∧ some k_ ≠ (v438 : Value).ownBlock ∧ some k_ ≠ (v442 : Value).ownBlock) v427 t426) := ⟨h1_⟩
                have n2_ : Aside0 (Kd.R (Kd.int .i64) 2 w24 w.heap.size (fun k_ => some k_ ≠ (v427 : Value).ownBlock ∧ some k_ ≠ (v438 : Value).ownBlock ∧ some k_ ≠ (v442 : Value).ownBlock) (.slice (some ad444) t430.length co20) t430) := ⟨h2_⟩
                have n3_ : Aside0 (Kd.R (Kd.int .i64) 2 w24 w.heap.size (fun k_ => some k_ ≠ (v427 : Value).ownBlock ∧ some k_ ≠ (.slice (some ad444) t430.length co20 : Value).ownBlock ∧ some k_ ≠ (v442 : Value).ownBlock) v438 t437) := ⟨h3_⟩
                have n4_ : Aside0 (Kd.R (Kd.int .i64) 2 w24 w.heap.size (fun k_ => some k_ ≠ (v427 : Value).ownBlock ∧ some k_ ≠ (.slice (some ad444) t430.length co20 : Value).ownBlock ∧ some k_ ≠ (v438 : Value).ownBlock) v442 t441) := ⟨h4_⟩
                have n5_ : Aside0 (w24.heap[gb421]? = some (.cells #[.slice none 0 0, .slice none 0 0, .slice none 0 0, .int .i64 0, .int .i64 0] 31 (0, 0))) := ⟨h5_⟩
                have n6_ : Aside0 (Below w.heap.size w w24) := ⟨h6_⟩
                clear HO424
                clear HO428
                clear HO432
                clear BK421
                clear HB
                clear h0_ h1_ h2_ h3_ h4_ h5_ h6_
                have HO424 := n0_
                have HO428 := n1_
                have HO432 := n2_
                have HO439 := n3_
                have HO443 := n4_
                have BK421 := n5_
                have HB := n6_
                clear n0_ n1_ n2_ n3_ n4_ n5_ n6_
                have hHeld : w24.cell? ⟨ad425.block, ad425.off + 1, none⟩ = some (.string (rdOf ByteArray.empty t422 1)) ∧ w24.cell? ⟨ad425.block, ad425.off + 2, none⟩ = some (.string (rdOf ByteArray.empty t422 2)) ∧ w24.cell? ad444 = some (.int .i64 (rd t430 0)) ∧ w24.cell? ⟨ad444.block, ad444.off + 1, none⟩ = some (.int .i64 (rd t430 1)) := hS_
                refine norm_ (a' := ?_) ?_ ?_
                rotate_left
                ·simp only [putAll, Act.put, qa_, qz_, qs_]
                 rfl
                refine two_ (i := 0) (j := 16) (Ni := some 27) (Nj := some 7) m17_24 m17_16 rfl rfl rfl rfl (two_of HT_.out (by kernel_rfl)) (by decide) (by decide) (fun K hK => ?_) (fun K hK => ?_)
                ·skip
                 refine Kd.R_lit_step k77 _ 77 ?hg (N := 27) ?hd (xs := ([] : List (S77))) (inner := []) (ok := fun _ => True) (okp := fun _ => True) ?hr ?hp (fun _ hk => hk) trivial (Below.refl _ _) (Nat.le_refl _) (by simp) ?_; (case hd => rfl); (case hg => rfl); (case hr => first | (go_simp; done) | (go_simp; rfl)); (case hp => exact (Reps.none _ _))
                 intro v434 w25 ho26 hb hg_ hnew_
                 have HS0_ := (hb.cell (World.block_lt_of_cell? _ _ (hHeld.1))).trans (hHeld.1)
                 have HS1_ := (hb.cell (World.block_lt_of_cell? _ _ (hHeld.2.1))).trans (hHeld.2.1)
                 have HS2_ := (hb.cell (World.block_lt_of_cell? _ _ (hHeld.2.2.1))).trans (hHeld.2.2.1)
                 have HS3_ := (hb.cell (World.block_lt_of_cell? _ _ (hHeld.2.2.2))).trans (hHeld.2.2.2)
                 clear hg_ hnew_
                 (first | rw [← Ny433.out] at ho26 | (simp only [Int.reduceToNat] at ho26; rw [← Ny433.out] at ho26))
                 have n0_ := Aside0.mk (Kd.R_below (by (with_reducible repeat (first | apply Kd.R_alloc | apply Kd.R_drewN | apply Kd.R_drew)); exact HO424.out) hb)
                 have n1_ := Aside0.mk (Kd.R_below (by (with_reducible repeat (first | apply Kd.R_alloc | apply Kd.R_drewN | apply Kd.R_drew)); exact HO428.out) hb)
                 have n2_ := Aside0.mk (Kd.R_below (by (with_reducible repeat (first | apply Kd.R_alloc | apply Kd.R_drewN | apply Kd.R_drew)); exact HO432.out) hb)
                 have n3_ := Aside0.mk (Kd.R_below (by (with_reducible repeat (first | apply Kd.R_alloc | apply Kd.R_drewN | apply Kd.R_drew)); exact HO439.out) hb)
                 have n4_ := Aside0.mk (Kd.R_below (by (with_reducible repeat (first | apply Kd.R_alloc | apply Kd.R_drewN | apply Kd.R_drew)); exact HO443.out) hb)
                 have n5_ := Aside0.mk (Kd.R_lower ho26 (below_size (by repeat (first | (with_reducible first | exact HB.out | apply below_alloc | apply pw_below_drewN | apply below_drew1 | refine below_set ?_ GE421.out) | exact HB.out))))
                 have n6_ := Aside0.mk (blk_below (g := gb421) (o := .cells #[.slice none 0 0, .slice none 0 0, .slice none 0 0, .int .i64 0, .int .i64 0] 31 (0, 0)) (by (with_reducible repeat (first | refine blk_drewN ?_ _ | refine blk_drew ?_ | refine blk_alloc ?_ _)); exact BK421.out) hb)
                 have n7_ := Aside0.mk (below_step (by repeat (first | (with_reducible first | exact HB.out | apply below_alloc | apply pw_below_drewN | apply below_drew1 | refine below_set ?_ GE421.out) | exact HB.out)) hb)
                 clear HO424
                 clear HO428
                 clear HO432
                 clear HO439
                 clear HO443
                 clear BK421
                 clear HB
                 have HO424 := n0_
                 have HO428 := n1_
                 have HO432 := n2_
                 have HO439 := n3_
                 have HO443 := n4_
                 have HO435 := n5_
                 have BK421 := n6_
                 have HB := n7_
                 clear n0_ n1_ n2_ n3_ n4_ n5_ n6_ n7_
                 clear hb ho26
                 obtain ⟨Ao27, co27, eo27⟩ := Kd.R_slice HO443.out
                 (first | subst eo27 | (injection eo27 with f1_ f2_ f3_; have f4_ := f1_.symm; have f5_ := f3_.symm; clear f1_ f2_ f3_; subst f4_; subst f5_))
                 obtain ⟨Ao28, co28, eo28⟩ := Kd.R_slice HO439.out
                 (first | subst eo28 | (injection eo28 with f1_ f2_ f3_; have f4_ := f1_.symm; have f5_ := f3_.symm; clear f1_ f2_ f3_; subst f4_; subst f5_))
                 obtain ⟨Ao29, co29, eo29⟩ := Kd.R_slice HO435.out
                 (first | subst eo29 | (injection eo29 with f1_ f2_ f3_; have f4_ := f1_.symm; have f5_ := f3_.symm; clear f1_ f2_ f3_; subst f4_; subst f5_))
                 refine hK.out _ _ ⟨HS0_, HS1_, HS2_, HS3_⟩ (fun hHeld => ?_)
                 clear hK K
                 refine norm_ (a' := ?_) ?_ ?_
                 rotate_left
                 ·show Act.put _ (some 27) _ = _
                  simp only [Act.put, qa_, qz_, qs_, i64_w, i32_w]
                  rfl
                 refine pure_ (i := 15) (N := some 42) (v := ?_) (a' := ?_) m17_14 rfl rfl (any_of HT_.out (by kernel_rfl)) (fun _ _ _ h => h) (Or.inl ⟨by rfl, ?_⟩) ?_ ?_
                 rotate_left
                 ·intro w'
                  go_simp
                  with_reducible rfl
                 rotate_left
                 ·simp only [Act.put, qa_, qz_, qs_, i64_w, i32_w]
                  rfl
                 exact norm_ (by first | (simp only [putAll, Act.put, qa_, qz_, qs_]; done) | (simp only [putAll, Act.put, qa_, qz_, qs_]; rfl)) (hJ0_4_8 (.slice Ao29 y433.length co29, .slice Ao28 t437.length co28, .slice Ao27 t441.length co27) _ ⟨hHeld, (by (with_reducible repeat (first | apply Kd.R_alloc | apply Kd.R_drewN | apply Kd.R_drew)); exact HO424.out), (by (with_reducible repeat (first | apply Kd.R_alloc | apply Kd.R_drewN | apply Kd.R_drew)); exact HO428.out), (by (with_reducible repeat (first | apply Kd.R_alloc | apply Kd.R_drewN | apply Kd.R_drew)); exact HO432.out), (by (with_reducible repeat (first | apply Kd.R_alloc | apply Kd.R_drewN | apply Kd.R_drew)); exact HO435.out), (by (with_reducible repeat (first | apply Kd.R_alloc | apply Kd.R_drewN | apply Kd.R_drew)); exact HO439.out), (by (with_reducible repeat (first | apply Kd.R_alloc | apply Kd.R_drewN | apply Kd.R_drew)); exact HO443.out), (by (with_reducible repeat (first | refine blk_drewN ?_ _ | refine blk_drew ?_ | refine blk_alloc ?_ _)); exact BK421.out), (by repeat (first | (with_reducible first | exact HB.out | apply below_alloc | apply pw_below_drewN | apply below_drew1 | refine below_set ?_ GE421.out) | exact HB.out))⟩)
                ·skip
                 refine box_step ?hg (N := 7) ?hd (cs := #[.slice none 0 0, .slice none 0 0, .slice none 0 0, .int .i64 0, .int .i64 0]) (t := 31) ?hr ?_; (case hd => rfl); (case hg => rfl); (case hr => first | (go_simp; done) | (go_simp; rfl))
                 intro gb446 hg w25 hbox hb
                 have HS0_ := (hb.cell (World.block_lt_of_cell? _ _ (hHeld.1))).trans (hHeld.1)
                 have HS1_ := (hb.cell (World.block_lt_of_cell? _ _ (hHeld.2.1))).trans (hHeld.2.1)
                 have HS2_ := (hb.cell (World.block_lt_of_cell? _ _ (hHeld.2.2.1))).trans (hHeld.2.2.1)
                 have HS3_ := (hb.cell (World.block_lt_of_cell? _ _ (hHeld.2.2.2))).trans (hHeld.2.2.2)
                 have n0_ := Aside0.mk (Kd.R_below (by (with_reducible repeat (first | apply Kd.R_alloc | apply Kd.R_drewN | apply Kd.R_drew)); exact HO424.out) hb)
                 have n1_ := Aside0.mk (Kd.R_below (by (with_reducible repeat (first | apply Kd.R_alloc | apply Kd.R_drewN | apply Kd.R_drew)); exact HO428.out) hb)
                 have n2_ := Aside0.mk (Kd.R_below (by (with_reducible repeat (first | apply Kd.R_alloc | apply Kd.R_drewN | apply Kd.R_drew)); exact HO432.out) hb)
                 have n3_ := Aside0.mk (Kd.R_below (by (with_reducible repeat (first | apply Kd.R_alloc | apply Kd.R_drewN | apply Kd.R_drew)); exact HO439.out) hb)
                 have n4_ := Aside0.mk (Kd.R_below (by (with_reducible repeat (first | apply Kd.R_alloc | apply Kd.R_drewN | apply Kd.R_drew)); exact HO443.out) hb)
                 have n5_ := Aside0.mk (blk_below (g := gb421) (o := .cells #[.slice none 0 0, .slice none 0 0, .slice none 0 0, .int .i64 0, .int .i64 0] 31 (0, 0)) (by (with_reducible repeat (first | refine blk_drewN ?_ _ | refine blk_drew ?_ | refine blk_alloc ?_ _)); exact BK421.out) hb)
                 have n6_ := Aside0.mk (below_step (by repeat (first | (with_reducible first | exact HB.out | apply below_alloc | apply pw_below_drewN | apply below_drew1 | refine below_set ?_ GE421.out) | exact HB.out)) hb)
                 have n7_ := Aside0.mk (hbox)
                 have n8_ := Aside0.mk ((by rw [hg]; exact (below_size (by repeat (first | (with_reducible first | exact HB.out | apply below_alloc | apply pw_below_drewN | apply below_drew1 | refine below_set ?_ GE421.out) | exact HB.out))) : w.heap.size ≤ gb446))
                 have n9_ := Aside0.mk ((by rw [hg]; exact (below_size (by repeat (first | (with_reducible first | exact HB.out | apply below_alloc | apply pw_below_drewN | apply below_drew1 | refine below_set ?_ GE421.out) | exact HB.out))) : w.heap.size ≤ gb446))
                 have n10_ := Aside0.mk ((by rw [hg]; exact Nat.ne_of_lt (blk_lt (g := gb421) (o := .cells #[.slice none 0 0, .slice none 0 0, .slice none 0 0, .int .i64 0, .int .i64 0] 31 (0, 0)) (by (with_reducible repeat (first | refine blk_drewN ?_ _ | refine blk_drew ?_ | refine blk_alloc ?_ _)); exact BK421.out)) : gb421 ≠ gb446))
                 have n11_ := Aside0.mk ((by rw [hg]; exact Nat.ne_of_gt (blk_lt (g := gb421) (o := .cells #[.slice none 0 0, .slice none 0 0, .slice none 0 0, .int .i64 0, .int .i64 0] 31 (0, 0)) (by (with_reducible repeat (first | refine blk_drewN ?_ _ | refine blk_drew ?_ | refine blk_alloc ?_ _)); exact BK421.out)) : gb446 ≠ gb421))
                 clear HO424
                 clear HO428
                 clear HO432
                 clear HO439
                 clear HO443
                 clear BK421
                 clear HB
                 have HO424 := n0_
                 have HO428 := n1_
                 have HO432 := n2_
                 have HO439 := n3_
                 have HO443 := n4_
                 have BK421 := n5_
                 have HB := n6_
                 have BK446 := n7_
                 have GW446 := n8_
                 have GE446 := n9_
                 have NB421_446 := n10_
                 have NB446_421 := n11_
                 clear n0_ n1_ n2_ n3_ n4_ n5_ n6_ n7_ n8_ n9_ n10_ n11_
                 clear hb hbox hg
                 refine hK.out _ _ ⟨HS0_, HS1_, HS2_, HS3_⟩ (fun hHeld => ?_)
                 clear hK K
                 refine norm_ (a' := ?_) ?_ ?_
                 rotate_left
                 ·show Act.put _ (some 7) _ = _
                  simp only [Act.put, qa_, qz_, qs_, i64_w, i32_w]
                  rfl
                 exact norm_ (by first | (simp only [putAll, Act.put, qa_, qz_, qs_]; done) | (simp only [putAll, Act.put, qa_, qz_, qs_]; rfl)) (hJ4_8_16 (v438, v442, gb446) _ ⟨hHeld, (by (with_reducible repeat (first | apply Kd.R_alloc | apply Kd.R_drewN | apply Kd.R_drew)); exact HO424.out), (by (with_reducible repeat (first | apply Kd.R_alloc | apply Kd.R_drewN | apply Kd.R_drew)); exact HO428.out), (by (with_reducible repeat (first | apply Kd.R_alloc | apply Kd.R_drewN | apply Kd.R_drew)); exact HO432.out), (by (with_reducible repeat (first | apply Kd.R_alloc | apply Kd.R_drewN | apply Kd.R_drew)); exact HO439.out), (by (with_reducible repeat (first | apply Kd.R_alloc | apply Kd.R_drewN | apply Kd.R_drew)); exact HO443.out), (by (with_reducible repeat (first | refine blk_drewN ?_ _ | refine blk_drew ?_ | refine blk_alloc ?_ _)); exact BK421.out), (by (with_reducible repeat (first | refine blk_drewN ?_ _ | refine blk_drew ?_ | refine blk_alloc ?_ _)); exact BK446.out), GW446.out, GE446.out, NB421_446.out, NB446_421.out, (by repeat (first | (with_reducible first | exact HB.out | apply below_alloc | apply pw_below_drewN | apply below_drew1 | refine below_set ?_ GE421.out | refine below_set ?_ GE446.out) | exact HB.out))⟩)
              ·skip
               rintro ⟨v434, gb446⟩ w25 ⟨hS_, h0_, h1_, h2_, h3_, h4_, h5_, h6_, h7_, h8_, h9_, h10_⟩
               have n0_ : Aside0 (Kd.R Kd.string 9 w25 w.heap.size (fun _ => True) (.slice (some ad425) t422.length co17) t422) := ⟨h0_⟩
               have n1_ : Aside0 (Kd.R (Kd.int .i64) 2 w25 w.heap.size (fun k_ => some k_ ≠ (.slice (some ad444) t430.length co20 : Value).ownBlock) v427 t426) := ⟨h1_⟩
               have n2_ : Aside0 (Kd.R (Kd.int .i64) 2 w25 w.heap.size (fun k_ => some k_ ≠ (v427 : Value).ownBlock) (.slice (some ad444) t430.length co20) t430) := ⟨h2_⟩
               have n3_ : Aside0 (Kd.R k77 77 w25 w.heap.size (fun _ => True) v434 y433) := ⟨h3_⟩
               have n4_ : Aside0 (w25.heap[gb421]? = some (.cells #[.slice none 0 0, .slice none 0 0, .slice none 0 0, .int .i64 0, .int .i64 0] 31 (0, 0))) := ⟨h4_⟩
               have n5_ : Aside0 (w25.heap[gb446]? = some (.cells #[.slice none 0 0, .slice none 0 0, .slice none 0 0, .int .i64 0, .int .i64 0] 31 (0, 0))) := ⟨h5_⟩
               have n6_ : Aside0 (w.heap.size ≤ gb446) := ⟨h6_⟩
               have n7_ : Aside0 (w.heap.size ≤ gb446) := ⟨h7_⟩
               have n8_ : Aside0 (gb421 ≠ gb446) := ⟨h8_⟩
               have n9_ : Aside0 (gb446 ≠ gb421) := ⟨h9_⟩
               have n10_ : Aside0 (Below w.heap.size w w25) := ⟨h10_⟩
               clear HO424
               clear HO428
               clear HO432
               clear BK421
               clear HB
               clear h0_ h1_ h2_ h3_ h4_ h5_ h6_ h7_ h8_ h9_ h10_
               have HO424 := n0_
               have HO428 := n1_
               have HO432 := n2_
               have HO435 := n3_
               have BK421 := n4_
               have BK446 := n5_
               have GW446 := n6_
               have GE446 := n7_
               have NB421_446 := n8_
               have NB446_421 := n9_
               have HB := n10_
               clear n0_ n1_ n2_ n3_ n4_ n5_ n6_ n7_ n8_ n9_ n10_
               have hHeld : w25.cell? ⟨ad425.block, ad425.off + 1, none⟩ = some (.string (rdOf ByteArray.empty t422 1)) ∧ w25.cell? ⟨ad425.block, ad425.off + 2, none⟩ = some (.string (rdOf ByteArray.empty t422 2)) ∧ w25.cell? ad444 = some (.int .i64 (rd t430 0)) ∧ w25.cell? ⟨ad444.block, ad444.off + 1, none⟩ = some (.int .i64 (rd t430 1)) := hS_
               refine norm_ (a' := ?_) ?_ ?_
               rotate_left
               ·simp only [putAll, Act.put, qa_, qz_, qs_]
                rfl
               refine one_ (i := 4) (N := some 31) m17_15 rfl rfl (one_of HT_.out (by kernel_rfl)) (by decide) (fun K hK => ?_)
               refine goes_ Tryd.func45 (by kernel_rfl) rfl #[.string (rdOf ByteArray.empty t422 1)] (by rfl) rfl rfl (by (try simp only [List.map_toArray, List.map_cons, List.map_nil]); first | done | rfl) ?_
               with_reducible refine (spec_l02Numbers.calls k (rdOf ByteArray.empty t422 1) t437 _ A10.out).mono ?_
               rintro e w26 ⟨v438, rfl, ho0, hb⟩
               have HS0_ := (hb.cell (World.block_lt_of_cell? _ _ (hHeld.1))).trans (hHeld.1)
               have HS1_ := (hb.cell (World.block_lt_of_cell? _ _ (hHeld.2.1))).trans (hHeld.2.1)
               have HS2_ := (hb.cell (World.block_lt_of_cell? _ _ (hHeld.2.2.1))).trans (hHeld.2.2.1)
               have HS3_ := (hb.cell (World.block_lt_of_cell? _ _ (hHeld.2.2.2))).trans (hHeld.2.2.2)
               refine ⟨_, rfl, ?_⟩
               have n0_ := Aside0.mk (Kd.R_below (by (with_reducible repeat (first | apply Kd.R_alloc | apply Kd.R_drewN | apply Kd.R_drew)); exact HO424.out) hb)
               have n1_ := Aside0.mk (Kd.R_elder' (by (with_reducible repeat (first | apply Kd.R_alloc | apply Kd.R_drewN | apply Kd.R_drew)); exact HO428.out) (Kd.R_base ho0) hb)
               have n2_ := Aside0.mk (Kd.R_elder' (by (with_reducible repeat (first | apply Kd.R_alloc | apply Kd.R_drewN | apply Kd.R_drew)); exact HO432.out) (Kd.R_base ho0) hb)
               have n3_ := Aside0.mk (Kd.R_below (by (with_reducible repeat (first | apply Kd.R_alloc | apply Kd.R_drewN | apply Kd.R_drew)); exact HO435.out) hb)
               have n4_ := Aside0.mk (Kd.R_lower (Kd.R_new' (Kd.R_new' ho0 (Kd.R_lt (by (with_reducible repeat (first | apply Kd.R_alloc | apply Kd.R_drewN | apply Kd.R_drew)); exact HO428.out))) (Kd.R_lt (by (with_reducible repeat (first | apply Kd.R_alloc | apply Kd.R_drewN | apply Kd.R_drew)); exact HO432.out))) (below_size (by repeat (first | (with_reducible first | exact HB.out | apply below_alloc | apply pw_below_drewN | apply below_drew1 | refine below_set ?_ GE421.out | refine below_set ?_ GE446.out) | exact HB.out))))
               have n5_ := Aside0.mk (blk_below (g := gb421) (o := .cells #[.slice none 0 0, .slice none 0 0, .slice none 0 0, .int .i64 0, .int .i64 0] 31 (0, 0)) (by (with_reducible repeat (first | refine blk_drewN ?_ _ | refine blk_drew ?_ | refine blk_alloc ?_ _)); exact BK421.out) hb)
               have n6_ := Aside0.mk (blk_below (g := gb446) (o := .cells #[.slice none 0 0, .slice none 0 0, .slice none 0 0, .int .i64 0, .int .i64 0] 31 (0, 0)) (by (with_reducible repeat (first | refine blk_drewN ?_ _ | refine blk_drew ?_ | refine blk_alloc ?_ _)); exact BK446.out) hb)
               have n7_ := Aside0.mk (below_step (by repeat (first | (with_reducible first | exact HB.out | apply below_alloc | apply pw_below_drewN | apply below_drew1 | refine below_set ?_ GE421.out | refine below_set ?_ GE446.out) | exact HB.out)) hb)
               clear HO424
               clear HO428
               clear HO432
               clear HO435
               clear BK421
               clear BK446
               clear HB
               have HO424 := n0_
               have HO428 := n1_
               have HO432 := n2_
               have HO435 := n3_
               have HO439 := n4_
               have BK421 := n5_
               have BK446 := n6_
               have HB := n7_
               clear n0_ n1_ n2_ n3_ n4_ n5_ n6_ n7_
               (try clear hb)
               (try clear hb2)
               (try clear hk)
               (try clear hi)
               (try clear ho0)
               refine hK.out _ _ ⟨HS0_, HS1_, HS2_, HS3_⟩ (fun hHeld => ?_)
               clear hK K
               refine norm_ (a' := ?_) ?_ ?_
               rotate_left
               ·show Act.put _ (some 31) _ = _
                simp only [Act.put, qa_, qz_, qs_, i64_w, i32_w]
                rfl
               exact norm_ (by first | (simp only [putAll, Act.put, qa_, qz_, qs_]; done) | (simp only [putAll, Act.put, qa_, qz_, qs_]; rfl)) (hJ0_4_16 (v434, v438, gb446) _ ⟨hHeld, (by (with_reducible repeat (first | apply Kd.R_alloc | apply Kd.R_drewN | apply Kd.R_drew)); exact HO424.out), (by (with_reducible repeat (first | apply Kd.R_alloc | apply Kd.R_drewN | apply Kd.R_drew)); exact HO428.out), (by (with_reducible repeat (first | apply Kd.R_alloc | apply Kd.R_drewN | apply Kd.R_drew)); exact HO432.out), (by (with_reducible repeat (first | apply Kd.R_alloc | apply Kd.R_drewN | apply Kd.R_drew)); exact HO435.out), (by (with_reducible repeat (first | apply Kd.R_alloc | apply Kd.R_drewN | apply Kd.R_drew)); exact Kd.R_mono HO439.out (fun _ hk => ⟨hk.1.2, hk.2⟩)), (by (with_reducible repeat (first | refine blk_drewN ?_ _ | refine blk_drew ?_ | refine blk_alloc ?_ _)); exact BK421.out), (by (with_reducible repeat (first | refine blk_drewN ?_ _ | refine blk_drew ?_ | refine blk_alloc ?_ _)); exact BK446.out), GW446.out, GE446.out, NB421_446.out, NB446_421.out, (by repeat (first | (with_reducible first | exact HB.out | apply below_alloc | apply pw_below_drewN | apply below_drew1 | refine below_set ?_ GE421.out | refine below_set ?_ GE446.out) | exact HB.out))⟩)
             ·skip
              rintro ⟨v434, v438⟩ w25 ⟨hS_, h0_, h1_, h2_, h3_, h4_, h5_, h6_⟩
              have n0_ : Aside0 (Kd.R Kd.string 9 w25 w.heap.size (fun _ => True) (.slice (some ad425) t422.length co17) t422) := ⟨h0_⟩
              have n1_ : Aside0 (Kd.R (Kd.int .i64) 2 w25 w.heap.size (fun k_ => some k_ ≠ (.slice (some ad444) t430.length co20 : Value).ownBlock ∧ some k_ ≠ (v438 : Value).ownBlock) v427 t426) := ⟨h1_⟩
              have n2_ : Aside0 (Kd.R (Kd.int .i64) 2 w25 w.heap.size (fun k_ => some k_ ≠ (v427 : Value).ownBlock ∧ some k_ ≠ (v438 : Value).ownBlock) (.slice (some ad444) t430.length co20) t430) := ⟨h2_⟩
              have n3_ : Aside0 (Kd.R k77 77 w25 w.heap.size (fun _ => True) v434 y433) := ⟨h3_⟩
              have n4_ : Aside0 (Kd.R (Kd.int .i64) 2 w25 w.heap.size (fun k_ => some k_ ≠ (v427 : Value).ownBlock ∧ some k_ ≠ (.slice (some ad444) t430.length co20 : Value).ownBlock) v438 t437) := ⟨h4_⟩
              have n5_ : Aside0 (w25.heap[gb421]? = some (.cells #[.slice none 0 0, .slice none 0 0, .slice none 0 0, .int .i64 0, .int .i64 0] 31 (0, 0))) := ⟨h5_⟩
              have n6_ : Aside0 (Below w.heap.size w w25) := ⟨h6_⟩
              clear HO424
              clear HO428
              clear HO432
              clear BK421
              clear HB
              clear h0_ h1_ h2_ h3_ h4_ h5_ h6_
              have HO424 := n0_
              have HO428 := n1_
              have HO432 := n2_
              have HO435 := n3_
              have HO439 := n4_
              have BK421 := n5_
              have HB := n6_
              clear n0_ n1_ n2_ n3_ n4_ n5_ n6_
              have hHeld : w25.cell? ⟨ad425.block, ad425.off + 1, none⟩ = some (.string (rdOf ByteArray.empty t422 1)) ∧ w25.cell? ⟨ad425.block, ad425.off + 2, none⟩ = some (.string (rdOf ByteArray.empty t422 2)) ∧ w25.cell? ad444 = some (.int .i64 (rd t430 0)) ∧ w25.cell? ⟨ad444.block, ad444.off + 1, none⟩ = some (.int .i64 (rd t430 1)) := hS_
              refine norm_ (a' := ?_) ?_ ?_
              rotate_left
              ·simp only [putAll, Act.put, qa_, qz_, qs_]
               rfl
              refine two_ (i := 8) (j := 16) (Ni := some 35) (Nj := some 7) m17_24 m17_15 rfl rfl rfl rfl (two_of HT_.out (by kernel_rfl)) (by decide) (by decide) (fun K hK => ?_) (fun K hK => ?_)
              ·skip
               refine goes_ Tryd.func45 (by kernel_rfl) rfl #[.string (rdOf ByteArray.empty t422 2)] (by rfl) rfl rfl (by (try simp only [List.map_toArray, List.map_cons, List.map_nil]); first | done | rfl) ?_
               with_reducible refine (spec_l02Numbers.calls k (rdOf ByteArray.empty t422 2) t441 _ A12.out).mono ?_
               rintro e w26 ⟨v442, rfl, ho0, hb⟩
               have HS0_ := (hb.cell (World.block_lt_of_cell? _ _ (hHeld.1))).trans (hHeld.1)
               have HS1_ := (hb.cell (World.block_lt_of_cell? _ _ (hHeld.2.1))).trans (hHeld.2.1)
               have HS2_ := (hb.cell (World.block_lt_of_cell? _ _ (hHeld.2.2.1))).trans (hHeld.2.2.1)
               have HS3_ := (hb.cell (World.block_lt_of_cell? _ _ (hHeld.2.2.2))).trans (hHeld.2.2.2)
               refine ⟨_, rfl, ?_⟩
               have n0_ := Aside0.mk (Kd.R_below (by (with_reducible repeat (first | apply Kd.R_alloc | apply Kd.R_drewN | apply Kd.R_drew)); exact HO424.out) hb)
               have n1_ := Aside0.mk (Kd.R_elder' (by (with_reducible repeat (first | apply Kd.R_alloc | apply Kd.R_drewN | apply Kd.R_drew)); exact HO428.out) (Kd.R_base ho0) hb)
               have n2_ := Aside0.mk (Kd.R_elder' (by (with_reducible repeat (first | apply Kd.R_alloc | apply Kd.R_drewN | apply Kd.R_drew)); exact HO432.out) (Kd.R_base ho0) hb)
               have n3_ := Aside0.mk (Kd.R_below (by (with_reducible repeat (first | apply Kd.R_alloc | apply Kd.R_drewN | apply Kd.R_drew)); exact HO435.out) hb)
               have n4_ := Aside0.mk (Kd.R_elder' (by (with_reducible repeat (first | apply Kd.R_alloc | apply Kd.R_drewN | apply Kd.R_drew)); exact HO439.out) (Kd.R_base ho0) hb)
               have n5_ := Aside0.mk (Kd.R_lower (Kd.R_new' (Kd.R_new' (Kd.R_new' ho0 (Kd.R_lt (by (with_reducible repeat (first | apply Kd.R_alloc | apply Kd.R_drewN | apply Kd.R_drew)); exact HO428.out))) (Kd.R_lt (by (with_reducible repeat (first | apply Kd.R_alloc | apply Kd.R_drewN | apply Kd.R_drew)); exact HO432.out))) (Kd.R_lt (by (with_reducible repeat (first | apply Kd.R_alloc | apply Kd.R_drewN | apply Kd.R_drew)); exact HO439.out))) (below_size (by repeat (first | (with_reducible first | exact HB.out | apply below_alloc | apply pw_below_drewN | apply below_drew1 | refine below_set ?_ GE421.out) | exact HB.out))))
               have n6_ := Aside0.mk (blk_below (g := gb421) (o := .cells #[.slice none 0 0, .slice none 0 0, .slice none 0 0, .int .i64 0, .int .i64 0] 31 (0, 0)) (by (with_reducible repeat (first | refine blk_drewN ?_ _ | refine blk_drew ?_ | refine blk_alloc ?_ _)); exact BK421.out) hb)
               have n7_ := Aside0.mk (below_step (by repeat (first | (with_reducible first | exact HB.out | apply below_alloc | apply pw_below_drewN | apply below_drew1 | refine below_set ?_ GE421.out) | exact HB.out)) hb)
               clear HO424
               clear HO428
               clear HO432
               clear HO435
               clear HO439
               clear BK421
               clear HB
               have HO424 := n0_
               have HO428 := n1_
               have HO432 := n2_
               have HO435 := n3_
               have HO439 := n4_
               have HO443 := n5_
               have BK421 := n6_
               have HB := n7_
               clear n0_ n1_ n2_ n3_ n4_ n5_ n6_ n7_
               (try clear hb)
               (try clear hb2)
               (try clear hk)
               (try clear hi)
               (try clear ho0)
               obtain ⟨Ao27, co27, eo27⟩ := Kd.R_slice HO443.out
               (first | subst eo27 | (injection eo27 with f1_ f2_ f3_; have f4_ := f1_.symm; have f5_ := f3_.symm; clear f1_ f2_ f3_; subst f4_; subst f5_))
               obtain ⟨Ao28, co28, eo28⟩ := Kd.R_slice HO439.out
               (first | subst eo28 | (injection eo28 with f1_ f2_ f3_; have f4_ := f1_.symm; have f5_ := f3_.symm; clear f1_ f2_ f3_; subst f4_; subst f5_))
               obtain ⟨Ao29, co29, eo29⟩ := Kd.R_slice HO435.out
               (first | subst eo29 | (injection eo29 with f1_ f2_ f3_; have f4_ := f1_.symm; have f5_ := f3_.symm; clear f1_ f2_ f3_; subst f4_; subst f5_))
               refine hK.out _ _ ⟨HS0_, HS1_, HS2_, HS3_⟩ (fun hHeld => ?_)
               clear hK K
               refine norm_ (a' := ?_) ?_ ?_
               rotate_left
               ·show Act.put _ (some 35) _ = _
                simp only [Act.put, qa_, qz_, qs_, i64_w, i32_w]
                rfl
               refine pure_ (i := 15) (N := some 42) (v := ?_) (a' := ?_) m17_14 rfl rfl (any_of HT_.out (by kernel_rfl)) (fun _ _ _ h => h) (Or.inl ⟨by rfl, ?_⟩) ?_ ?_
               rotate_left
               ·intro w'
                go_simp
                with_reducible rfl
               rotate_left
               ·simp only [Act.put, qa_, qz_, qs_, i64_w, i32_w]
                rfl
               exact norm_ (by first | (simp only [putAll, Act.put, qa_, qz_, qs_]; done) | (simp only [putAll, Act.put, qa_, qz_, qs_]; rfl)) (hJ0_4_8 (.slice Ao29 y433.length co29, .slice Ao28 t437.length co28, .slice Ao27 t441.length co27) _ ⟨hHeld, (by (with_reducible repeat (first | apply Kd.R_alloc | apply Kd.R_drewN | apply Kd.R_drew)); exact HO424.out), (by (with_reducible repeat (first | apply Kd.R_alloc | apply Kd.R_drewN | apply Kd.R_drew)); exact Kd.R_mono HO428.out (fun _ hk => ⟨hk.1.1, ⟨hk.1.2, hk.2⟩⟩)), (by (with_reducible repeat (first | apply Kd.R_alloc | apply Kd.R_drewN | apply Kd.R_drew)); exact Kd.R_mono HO432.out (fun _ hk => ⟨hk.1.1, ⟨hk.1.2, hk.2⟩⟩)), (by (with_reducible repeat (first | apply Kd.R_alloc | apply Kd.R_drewN | apply Kd.R_drew)); exact HO435.out), (by (with_reducible repeat (first | apply Kd.R_alloc | apply Kd.R_drewN | apply Kd.R_drew)); exact Kd.R_mono HO439.out (fun _ hk => ⟨hk.1.1, ⟨hk.1.2, hk.2⟩⟩)), (by (with_reducible repeat (first | apply Kd.R_alloc | apply Kd.R_drewN | apply Kd.R_drew)); exact Kd.R_mono HO443.out (fun _ hk => ⟨hk.1.1.2, ⟨hk.1.2, hk.2⟩⟩)), (by (with_reducible repeat (first | refine blk_drewN ?_ _ | refine blk_drew ?_ | refine blk_alloc ?_ _)); exact BK421.out), (by repeat (first | (with_reducible first | exact HB.out | apply below_alloc | apply pw_below_drewN | apply below_drew1 | refine below_set ?_ GE421.out) | exact HB.out))⟩)
              ·skip
               refine box_step ?hg (N := 7) ?hd (cs := #[.slice none 0 0, .slice none 0 0, .slice none 0 0, .int .i64 0, .int .i64 0]) (t := 31) ?hr ?_; (case hd => rfl); (case hg => rfl); (case hr => first | (go_simp; done) | (go_simp; rfl))
               intro gb446 hg w26 hbox hb
               have HS0_ := (hb.cell (World.block_lt_of_cell? _ _ (hHeld.1))).trans (hHeld.1)
               have HS1_ := (hb.cell (World.block_lt_of_cell? _ _ (hHeld.2.1))).trans (hHeld.2.1)
               have HS2_ := (hb.cell (World.block_lt_of_cell? _ _ (hHeld.2.2.1))).trans (hHeld.2.2.1)
               have HS3_ := (hb.cell (World.block_lt_of_cell? _ _ (hHeld.2.2.2))).trans (hHeld.2.2.2)
               have n0_ := Aside0.mk (Kd.R_below (by (with_reducible repeat (first | apply Kd.R_alloc | apply Kd.R_drewN | apply Kd.R_drew)); exact HO424.out) hb)
               have n1_ := Aside0.mk (Kd.R_below (by (with_reducible repeat (first | apply Kd.R_alloc | apply Kd.R_drewN | apply Kd.R_drew)); exact HO428.out) hb)
               have n2_ := Aside0.mk (Kd.R_below (by (with_reducible repeat (first | apply Kd.R_alloc | apply Kd.R_drewN | apply Kd.R_drew)); exact HO432.out) hb)
               have n3_ := Aside0.mk (Kd.R_below (by (with_reducible repeat (first | apply Kd.R_alloc | apply Kd.R_drewN | apply Kd.R_drew)); exact HO435.out) hb)
               have n4_ := Aside0.mk (Kd.R_below (by (with_reducible repeat (first | apply Kd.R_alloc | apply Kd.R_drewN | apply Kd.R_drew)); exact HO439.out) hb)
               have n5_ := Aside0.mk (blk_below (g := gb421) (o := .cells #[.slice none 0 0, .slice none 0 0, .slice none 0 0, .int .i64 0, .int .i64 0] 31 (0, 0)) (by (with_reducible repeat (first | refine blk_drewN ?_ _ | refine blk_drew ?_ | refine blk_alloc ?_ _)); exact BK421.out) hb)
               have n6_ := Aside0.mk (below_step (by repeat (first | (with_reducible first | exact HB.out | apply below_alloc | apply pw_below_drewN | apply below_drew1 | refine below_set ?_ GE421.out) | exact HB.out)) hb)
               have n7_ := Aside0.mk (hbox)
               have n8_ := Aside0.mk ((by rw [hg]; exact (below_size (by repeat (first | (with_reducible first | exact HB.out | apply below_alloc | apply pw_below_drewN | apply below_drew1 | refine below_set ?_ GE421.out) | exact HB.out))) : w.heap.size ≤ gb446))
               have n9_ := Aside0.mk ((by rw [hg]; exact (below_size (by repeat (first | (with_reducible first | exact HB.out | apply below_alloc | apply pw_below_drewN | apply below_drew1 | refine below_set ?_ GE421.out) | exact HB.out))) : w.heap.size ≤ gb446))
               have n10_ := Aside0.mk ((by rw [hg]; exact Nat.ne_of_lt (blk_lt (g := gb421) (o := .cells #[.slice none 0 0, .slice none 0 0, .slice none 0 0, .int .i64 0, .int .i64 0] 31 (0, 0)) (by (with_reducible repeat (first | refine blk_drewN ?_ _ | refine blk_drew ?_ | refine blk_alloc ?_ _)); exact BK421.out)) : gb421 ≠ gb446))
               have n11_ := Aside0.mk ((by rw [hg]; exact Nat.ne_of_gt (blk_lt (g := gb421) (o := .cells #[.slice none 0 0, .slice none 0 0, .slice none 0 0, .int .i64 0, .int .i64 0] 31 (0, 0)) (by (with_reducible repeat (first | refine blk_drewN ?_ _ | refine blk_drew ?_ | refine blk_alloc ?_ _)); exact BK421.out)) : gb446 ≠ gb421))
               clear HO424
               clear HO428
               clear HO432
               clear HO435
               clear HO439
               clear BK421
               clear HB
               have HO424 := n0_
               have HO428 := n1_
               have HO432 := n2_
               have HO435 := n3_
               have HO439 := n4_
               have BK421 := n5_
               have HB := n6_
               have BK446 := n7_
               have GW446 := n8_
               have GE446 := n9_
               have NB421_446 := n10_
               have NB446_421 := n11_
               clear n0_ n1_ n2_ n3_ n4_ n5_ n6_ n7_ n8_ n9_ n10_ n11_
               clear hb hbox hg
               refine hK.out _ _ ⟨HS0_, HS1_, HS2_, HS3_⟩ (fun hHeld => ?_)
               clear hK K
               refine norm_ (a' := ?_) ?_ ?_
               rotate_left
               ·show Act.put _ (some 7) _ = _
                simp only [Act.put, qa_, qz_, qs_, i64_w, i32_w]
                rfl
               exact norm_ (by first | (simp only [putAll, Act.put, qa_, qz_, qs_]; done) | (simp only [putAll, Act.put, qa_, qz_, qs_]; rfl)) (hJ0_4_16 (v434, v438, gb446) _ ⟨hHeld, (by (with_reducible repeat (first | apply Kd.R_alloc | apply Kd.R_drewN | apply Kd.R_drew)); exact HO424.out), (by (with_reducible repeat (first | apply Kd.R_alloc | apply Kd.R_drewN | apply Kd.R_drew)); exact HO428.out), (by (with_reducible repeat (first | apply Kd.R_alloc | apply Kd.R_drewN | apply Kd.R_drew)); exact HO432.out), (by (with_reducible repeat (first | apply Kd.R_alloc | apply Kd.R_drewN | apply Kd.R_drew)); exact HO435.out), (by (with_reducible repeat (first | apply Kd.R_alloc | apply Kd.R_drewN | apply Kd.R_drew)); exact HO439.out), (by (with_reducible repeat (first | refine blk_drewN ?_ _ | refine blk_drew ?_ | refine blk_alloc ?_ _)); exact BK421.out), (by (with_reducible repeat (first | refine blk_drewN ?_ _ | refine blk_drew ?_ | refine blk_alloc ?_ _)); exact BK446.out), GW446.out, GE446.out, NB421_446.out, NB446_421.out, (by repeat (first | (with_reducible first | exact HB.out | apply below_alloc | apply pw_below_drewN | apply below_drew1 | refine below_set ?_ GE421.out | refine below_set ?_ GE446.out) | exact HB.out))⟩)
            ·skip
             rintro ⟨v438, v442, gb446⟩ w25 ⟨hS_, h0_, h1_, h2_, h3_, h4_, h5_, h6_, h7_, h8_, h9_, h10_, h11_⟩
             have n0_ : Aside0 (Kd.R Kd.string 9 w25 w.heap.size (fun _ => True) (.slice (some ad425) t422.length co17) t422) := ⟨h0_⟩
             have n1_ : Aside0 (Kd.R (Kd.int .i64) 2 w25 w.heap.size (fun k_ => some k_ ≠ (.slice (some ad444) t430.length co20 : Value).ownBlock ∧ some k_ ≠ (v438 : Value).ownBlock ∧ some k_ ≠ (v442 : Value).ownBlock) v427 t426) := ⟨h1_⟩
             have n2_ : Aside0 (Kd.R (Kd.int .i64) 2 w25 w.heap.size (fun k_ => some k_ ≠ (v427 : Value).ownBlock ∧ some k_ ≠ (v438 : Value).ownBlock ∧ some k_ ≠ (v442 : Value).ownBlock) (.slice (some ad444) t430.length co20) t430) := ⟨h2_⟩
             have n3_ : Aside0 (Kd.R (Kd.int .i64) 2 w25 w.heap.size (fun k_ => some k_ ≠ (v427 : Value).ownBlock ∧ some k_ ≠ (.slice (some ad444) t430.length co20 : Value).ownBlock ∧ some k_ ≠ (v442 : Value).ownBlock) v438 t437) := ⟨h3_⟩
             have n4_ : Aside0 (Kd.R (Kd.int .i64) 2 w25 w.heap.size (fun k_ => some k_ ≠ (v427 : Value).ownBlock ∧ some k_ ≠ (.slice (some ad444) t430.length co20 : Value).ownBlock ∧ some k_ ≠ (v438 : Value).ownBlock) v442 t441) := ⟨h4_⟩
             have n5_ : Aside0 (w25.heap[gb421]? = some (.cells #[.slice none 0 0, .slice none 0 0, .slice none 0 0, .int .i64 0, .int .i64 0] 31 (0, 0))) := ⟨h5_⟩
             have n6_ : Aside0 (w25.heap[gb446]? = some (.cells #[.slice none 0 0, .slice none 0 0, .slice none 0 0, .int .i64 0, .int .i64 0] 31 (0, 0))) := ⟨h6_⟩
             have n7_ : Aside0 (w.heap.size ≤ gb446) := ⟨h7_⟩
             have n8_ : Aside0 (w.heap.size ≤ gb446) := ⟨h8_⟩
             have n9_ : Aside0 (gb421 ≠ gb446) := ⟨h9_⟩
             have n10_ : Aside0 (gb446 ≠ gb421) := ⟨h10_⟩
             have n11_ : Aside0 (Below w.heap.size w w25) := ⟨h11_⟩
             clear HO424
             clear HO428
             clear HO432
             clear BK421
             clear HB
             clear h0_ h1_ h2_ h3_ h4_ h5_ h6_ h7_ h8_ h9_ h10_ h11_
             have HO424 := n0_
             have HO428 := n1_
             have HO432 := n2_
             have HO439 := n3_
             have HO443 := n4_
             have BK421 := n5_
             have BK446 := n6_
             have GW446 := n7_
             have GE446 := n8_
             have NB421_446 := n9_
             have NB446_421 := n10_
             have HB := n11_
             clear n0_ n1_ n2_ n3_ n4_ n5_ n6_ n7_ n8_ n9_ n10_ n11_
             have hHeld : w25.cell? ⟨ad425.block, ad425.off + 1, none⟩ = some (.string (rdOf ByteArray.empty t422 1)) ∧ w25.cell? ⟨ad425.block, ad425.off + 2, none⟩ = some (.string (rdOf ByteArray.empty t422 2)) ∧ w25.cell? ad444 = some (.int .i64 (rd t430 0)) ∧ w25.cell? ⟨ad444.block, ad444.off + 1, none⟩ = some (.int .i64 (rd t430 1)) := hS_
             refine norm_ (a' := ?_) ?_ ?_
             rotate_left
             ·simp only [putAll, Act.put, qa_, qz_, qs_]
              rfl
             refine one_ (i := 0) (N := some 27) m17_25 rfl rfl (one_of HT_.out (by kernel_rfl)) (by decide) (fun K hK => ?_)
             refine Kd.R_lit_step k77 _ 77 ?hg (N := 27) ?hd (xs := ([] : List (S77))) (inner := []) (ok := fun _ => True) (okp := fun _ => True) ?hr ?hp (fun _ hk => hk) trivial (Below.refl _ _) (Nat.le_refl _) (by simp) ?_; (case hd => rfl); (case hg => rfl); (case hr => first | (go_simp; done) | (go_simp; rfl)); (case hp => exact (Reps.none _ _))
             intro v434 w26 ho27 hb hg_ hnew_
             have HS0_ := (hb.cell (World.block_lt_of_cell? _ _ (hHeld.1))).trans (hHeld.1)
             have HS1_ := (hb.cell (World.block_lt_of_cell? _ _ (hHeld.2.1))).trans (hHeld.2.1)
             have HS2_ := (hb.cell (World.block_lt_of_cell? _ _ (hHeld.2.2.1))).trans (hHeld.2.2.1)
             have HS3_ := (hb.cell (World.block_lt_of_cell? _ _ (hHeld.2.2.2))).trans (hHeld.2.2.2)
             clear hg_ hnew_
             (first | rw [← Ny433.out] at ho27 | (simp only [Int.reduceToNat] at ho27; rw [← Ny433.out] at ho27))
             have n0_ := Aside0.mk (Kd.R_below (by (with_reducible repeat (first | apply Kd.R_alloc | apply Kd.R_drewN | apply Kd.R_drew)); exact HO424.out) hb)
             have n1_ := Aside0.mk (Kd.R_below (by (with_reducible repeat (first | apply Kd.R_alloc | apply Kd.R_drewN | apply Kd.R_drew)); exact HO428.out) hb)
             have n2_ := Aside0.mk (Kd.R_below (by (with_reducible repeat (first | apply Kd.R_alloc | apply Kd.R_drewN | apply Kd.R_drew)); exact HO432.out) hb)
             have n3_ := Aside0.mk (Kd.R_below (by (with_reducible repeat (first | apply Kd.R_alloc | apply Kd.R_drewN | apply Kd.R_drew)); exact HO439.out) hb)
             have n4_ := Aside0.mk (Kd.R_below (by (with_reducible repeat (first | apply Kd.R_alloc | apply Kd.R_drewN | apply Kd.R_drew)); exact HO443.out) hb)
             have n5_ := Aside0.mk (Kd.R_lower ho27 (below_size (by repeat (first | (with_reducible first | exact HB.out | apply below_alloc | apply pw_below_drewN | apply below_drew1 | refine below_set ?_ GE421.out | refine below_set ?_ GE446.out) | exact HB.out))))
             have n6_ := Aside0.mk (blk_below (g := gb421) (o := .cells #[.slice none 0 0, .slice none 0 0, .slice none 0 0, .int .i64 0, .int .i64 0] 31 (0, 0)) (by (with_reducible repeat (first | refine blk_drewN ?_ _ | refine blk_drew ?_ | refine blk_alloc ?_ _)); exact BK421.out) hb)
             have n7_ := Aside0.mk (blk_below (g := gb446) (o := .cells #[.slice none 0 0, .slice none 0 0, .slice none 0 0, .int .i64 0, .int .i64 0] 31 (0, 0)) (by (with_reducible repeat (first | refine blk_drewN ?_ _ | refine blk_drew ?_ | refine blk_alloc ?_ _)); exact BK446.out) hb)
             have n8_ := Aside0.mk (below_step (by repeat (first | (with_reducible first | exact HB.out | apply below_alloc | apply pw_below_drewN | apply below_drew1 | refine below_set ?_ GE421.out | refine below_set ?_ GE446.out) | exact HB.out)) hb)
             clear HO424
             clear HO428
             clear HO432
             clear HO439
             clear HO443
             clear BK421
             clear BK446
             clear HB
             have HO424 := n0_
             have HO428 := n1_
             have HO432 := n2_
             have HO439 := n3_
             have HO443 := n4_
             have HO435 := n5_
             have BK421 := n6_
             have BK446 := n7_
             have HB := n8_
             clear n0_ n1_ n2_ n3_ n4_ n5_ n6_ n7_ n8_
             clear hb ho27
             obtain ⟨Ao28, co28, eo28⟩ := Kd.R_slice HO443.out
             (first | subst eo28 | (injection eo28 with f1_ f2_ f3_; have f4_ := f1_.symm; have f5_ := f3_.symm; clear f1_ f2_ f3_; subst f4_; subst f5_))
             obtain ⟨Ao29, co29, eo29⟩ := Kd.R_slice HO439.out
             (first | subst eo29 | (injection eo29 with f1_ f2_ f3_; have f4_ := f1_.symm; have f5_ := f3_.symm; clear f1_ f2_ f3_; subst f4_; subst f5_))
             obtain ⟨Ao30, co30, eo30⟩ := Kd.R_slice HO435.out
             (first | subst eo30 | (injection eo30 with f1_ f2_ f3_; have f4_ := f1_.symm; have f5_ := f3_.symm; clear f1_ f2_ f3_; subst f4_; subst f5_))
             refine hK.out _ _ ⟨HS0_, HS1_, HS2_, HS3_⟩ (fun hHeld => ?_)
             clear hK K
             refine norm_ (a' := ?_) ?_ ?_
             rotate_left
             ·show Act.put _ (some 27) _ = _
              simp only [Act.put, qa_, qz_, qs_, i64_w, i32_w]
              rfl
             refine pure_ (i := 15) (N := some 42) (v := ?_) (a' := ?_) m17_13 rfl rfl (any_of HT_.out (by kernel_rfl)) (fun _ _ _ h => h) (Or.inl ⟨by rfl, ?_⟩) ?_ ?_
             rotate_left
             ·intro w'
              go_simp
              with_reducible rfl
             rotate_left
             ·simp only [Act.put, qa_, qz_, qs_, i64_w, i32_w]
              rfl
             exact norm_ (by first | (simp only [putAll, Act.put, qa_, qz_, qs_]; done) | (simp only [putAll, Act.put, qa_, qz_, qs_]; rfl)) (hJ0_4_8_16 (.slice Ao30 y433.length co30, .slice Ao29 t437.length co29, .slice Ao28 t441.length co28, gb446) _ ⟨hHeld, (by (with_reducible repeat (first | apply Kd.R_alloc | apply Kd.R_drewN | apply Kd.R_drew)); exact HO424.out), (by (with_reducible repeat (first | apply Kd.R_alloc | apply Kd.R_drewN | apply Kd.R_drew)); exact HO428.out), (by (with_reducible repeat (first | apply Kd.R_alloc | apply Kd.R_drewN | apply Kd.R_drew)); exact HO432.out), (by (with_reducible repeat (first | apply Kd.R_alloc | apply Kd.R_drewN | apply Kd.R_drew)); exact HO435.out), (by (with_reducible repeat (first | apply Kd.R_alloc | apply Kd.R_drewN | apply Kd.R_drew)); exact HO439.out), (by (with_reducible repeat (first | apply Kd.R_alloc | apply Kd.R_drewN | apply Kd.R_drew)); exact HO443.out), (by (with_reducible repeat (first | refine blk_drewN ?_ _ | refine blk_drew ?_ | refine blk_alloc ?_ _)); exact BK421.out), (by (with_reducible repeat (first | refine blk_drewN ?_ _ | refine blk_drew ?_ | refine blk_alloc ?_ _)); exact BK446.out), GW446.out, GE446.out, NB421_446.out, NB446_421.out, (by repeat (first | (with_reducible first | exact HB.out | apply below_alloc | apply pw_below_drewN | apply below_drew1 | refine below_set ?_ GE421.out | refine below_set ?_ GE446.out) | exact HB.out))⟩)
           ·skip
            rintro ⟨v434, v438, gb446⟩ w26 ⟨hS_, h0_, h1_, h2_, h3_, h4_, h5_, h6_, h7_, h8_, h9_, h10_, h11_⟩
            have n0_ : Aside0 (Kd.R Kd.string 9 w26 w.heap.size (fun _ => True) (.slice (some ad425) t422.length co17) t422) := ⟨h0_⟩
            have n1_ : Aside0 (Kd.R (Kd.int .i64) 2 w26 w.heap.size (fun k_ => some k_ ≠ (.slice (some ad444) t430.length co20 : Value).ownBlock ∧ some k_ ≠ (v438 : Value).ownBlock) v427 t426) := ⟨h1_⟩
            have n2_ : Aside0 (Kd.R (Kd.int .i64) 2 w26 w.heap.size (fun k_ => some k_ ≠ (v427 : Value).ownBlock ∧ some k_ ≠ (v438 : Value).ownBlock) (.slice (some ad444) t430.length co20) t430) := ⟨h2_⟩
            have n3_ : Aside0 (Kd.R k77 77 w26 w.heap.size (fun _ => True) v434 y433) := ⟨h3_⟩
            have n4_ : Aside0 (Kd.R (Kd.int .i64) 2 w26 w.heap.size (fun k_ => some k_ ≠ (v427 : Value).ownBlock ∧ some k_ ≠ (.slice (some ad444) t430.length co20 : Value).ownBlock) v438 t437) := ⟨h4_⟩
            have n5_ : Aside0 (w26.heap[gb421]? = some (.cells #[.slice none 0 0, .slice none 0 0, .slice none 0 0, .int .i64 0, .int .i64 0] 31 (0, 0))) := ⟨h5_⟩
            have n6_ : Aside0 (w26.heap[gb446]? = some (.cells #[.slice none 0 0, .slice none 0 0, .slice none 0 0, .int .i64 0, .int .i64 0] 31 (0, 0))) := ⟨h6_⟩
            have n7_ : Aside0 (w.heap.size ≤ gb446) := ⟨h7_⟩
            have n8_ : Aside0 (w.heap.size ≤ gb446) := ⟨h8_⟩
            have n9_ : Aside0 (gb421 ≠ gb446) := ⟨h9_⟩
            have n10_ : Aside0 (gb446 ≠ gb421) := ⟨h10_⟩
            have n11_ : Aside0 (Below w.heap.size w w26) := ⟨h11_⟩
            clear HO424
            clear HO428
            clear HO432
            clear BK421
            clear HB
            clear h0_ h1_ h2_ h3_ h4_ h5_ h6_ h7_ h8_ h9_ h10_ h11_
            have HO424 := n0_
            have HO428 := n1_
            have HO432 := n2_
            have HO435 := n3_
            have HO439 := n4_
            have BK421 := n5_
            have BK446 := n6_
            have GW446 := n7_
            have GE446 := n8_
            have NB421_446 := n9_
            have NB446_421 := n10_
            have HB := n11_
            clear n0_ n1_ n2_ n3_ n4_ n5_ n6_ n7_ n8_ n9_ n10_ n11_
            have hHeld : w26.cell? ⟨ad425.block, ad425.off + 1, none⟩ = some (.string (rdOf ByteArray.empty t422 1)) ∧ w26.cell? ⟨ad425.block, ad425.off + 2, none⟩ = some (.string (rdOf ByteArray.empty t422 2)) ∧ w26.cell? ad444 = some (.int .i64 (rd t430 0)) ∧ w26.cell? ⟨ad444.block, ad444.off + 1, none⟩ = some (.int .i64 (rd t430 1)) := hS_
            refine norm_ (a' := ?_) ?_ ?_
            rotate_left
            ·simp only [putAll, Act.put, qa_, qz_, qs_]
             rfl
            refine one_ (i := 8) (N := some 35) m17_25 rfl rfl (one_of HT_.out (by kernel_rfl)) (by decide) (fun K hK => ?_)
            refine goes_ Tryd.func45 (by kernel_rfl) rfl #[.string (rdOf ByteArray.empty t422 2)] (by rfl) rfl rfl (by (try simp only [List.map_toArray, List.map_cons, List.map_nil]); first | done | rfl) ?_
            with_reducible refine (spec_l02Numbers.calls k (rdOf ByteArray.empty t422 2) t441 _ A12.out).mono ?_
            rintro e w27 ⟨v442, rfl, ho0, hb⟩
            have HS0_ := (hb.cell (World.block_lt_of_cell? _ _ (hHeld.1))).trans (hHeld.1)
            have HS1_ := (hb.cell (World.block_lt_of_cell? _ _ (hHeld.2.1))).trans (hHeld.2.1)
            have HS2_ := (hb.cell (World.block_lt_of_cell? _ _ (hHeld.2.2.1))).trans (hHeld.2.2.1)
            have HS3_ := (hb.cell (World.block_lt_of_cell? _ _ (hHeld.2.2.2))).trans (hHeld.2.2.2)
            refine ⟨_, rfl, ?_⟩
            have n0_ := Aside0.mk (Kd.R_below (by (with_reducible repeat (first | apply Kd.R_alloc | apply Kd.R_drewN | apply Kd.R_drew)); exact HO424.out) hb)
            have n1_ := Aside0.mk (Kd.R_elder' (by (with_reducible repeat (first | apply Kd.R_alloc | apply Kd.R_drewN | apply Kd.R_drew)); exact HO428.out) (Kd.R_base ho0) hb)
            have n2_ := Aside0.mk (Kd.R_elder' (by (with_reducible repeat (first | apply Kd.R_alloc | apply Kd.R_drewN | apply Kd.R_drew)); exact HO432.out) (Kd.R_base ho0) hb)
            have n3_ := Aside0.mk (Kd.R_below (by (with_reducible repeat (first | apply Kd.R_alloc | apply Kd.R_drewN | apply Kd.R_drew)); exact HO435.out) hb)
            have n4_ := Aside0.mk (Kd.R_elder' (by (with_reducible repeat (first | apply Kd.R_alloc | apply Kd.R_drewN | apply Kd.R_drew)); exact HO439.out) (Kd.R_base ho0) hb)
            have n5_ := Aside0.mk (Kd.R_lower (Kd.R_new' (Kd.R_new' (Kd.R_new' ho0 (Kd.R_lt (by (with_reducible repeat (first | apply Kd.R_alloc | apply Kd.R_drewN | apply Kd.R_drew)); exact HO428.out))) (Kd.R_lt (by (with_reducible repeat (first | apply Kd.R_alloc | apply Kd.R_drewN | apply Kd.R_drew)); exact HO432.out))) (Kd.R_lt (by (with_reducible repeat (first | apply Kd.R_alloc | apply Kd.R_drewN | apply Kd.R_drew)); exact HO439.out))) (below_size (by repeat (first | (with_reducible first | exact HB.out | apply below_alloc | apply pw_below_drewN | apply below_drew1 | refine below_set ?_ GE421.out | refine below_set ?_ GE446.out) | exact HB.out))))
            have n6_ := Aside0.mk (blk_below (g := gb421) (o := .cells #[.slice none 0 0, .slice none 0 0, .slice none 0 0, .int .i64 0, .int .i64 0] 31 (0, 0)) (by (with_reducible repeat (first | refine blk_drewN ?_ _ | refine blk_drew ?_ | refine blk_alloc ?_ _)); exact BK421.out) hb)
            have n7_ := Aside0.mk (blk_below (g := gb446) (o := .cells #[.slice none 0 0, .slice none 0 0, .slice none 0 0, .int .i64 0, .int .i64 0] 31 (0, 0)) (by (with_reducible repeat (first | refine blk_drewN ?_ _ | refine blk_drew ?_ | refine blk_alloc ?_ _)); exact BK446.out) hb)
            have n8_ := Aside0.mk (below_step (by repeat (first | (with_reducible first | exact HB.out | apply below_alloc | apply pw_below_drewN | apply below_drew1 | refine below_set ?_ GE421.out | refine below_set ?_ GE446.out) | exact HB.out)) hb)
            clear HO424
            clear HO428
            clear HO432
            clear HO435
            clear HO439
            clear BK421
            clear BK446
            clear HB
            have HO424 := n0_
            have HO428 := n1_
            have HO432 := n2_
            have HO435 := n3_
            have HO439 := n4_
            have HO443 := n5_
            have BK421 := n6_
            have BK446 := n7_
            have HB := n8_
            clear n0_ n1_ n2_ n3_ n4_ n5_ n6_ n7_ n8_
            (try clear hb)
            (try clear hb2)
            (try clear hk)
            (try clear hi)
            (try clear ho0)
            obtain ⟨Ao28, co28, eo28⟩ := Kd.R_slice HO443.out
            (first | subst eo28 | (injection eo28 with f1_ f2_ f3_; have f4_ := f1_.symm; have f5_ := f3_.symm; clear f1_ f2_ f3_; subst f4_; subst f5_))
            obtain ⟨Ao29, co29, eo29⟩ := Kd.R_slice HO439.out
            (first | subst eo29 | (injection eo29 with f1_ f2_ f3_; have f4_ := f1_.symm; have f5_ := f3_.symm; clear f1_ f2_ f3_; subst f4_; subst f5_))
            obtain ⟨Ao30, co30, eo30⟩ := Kd.R_slice HO435.out
            (first | subst eo30 | (injection eo30 with f1_ f2_ f3_; have f4_ := f1_.symm; have f5_ := f3_.symm; clear f1_ f2_ f3_; subst f4_; subst f5_))
            refine hK.out _ _ ⟨HS0_, HS1_, HS2_, HS3_⟩ (fun hHeld => ?_)
            clear hK K
            refine norm_ (a' := ?_) ?_ ?_
            rotate_left
            ·show Act.put _ (some 35) _ = _
             simp only [Act.put, qa_, qz_, qs_, i64_w, i32_w]
             rfl
            refine pure_ (i := 15) (N := some 42) (v := ?_) (a' := ?_) m17_13 rfl rfl (any_of HT_.out (by kernel_rfl)) (fun _ _ _ h => h) (Or.inl ⟨by rfl, ?_⟩) ?_ ?_
            rotate_left
            ·intro w'
             go_simp
             with_reducible rfl
            rotate_left
            ·simp only [Act.put, qa_, qz_, qs_, i64_w, i32_w]
             rfl
            exact norm_ (by first | (simp only [putAll, Act.put, qa_, qz_, qs_]; done) | (simp only [putAll, Act.put, qa_, qz_, qs_]; rfl)) (hJ0_4_8_16 (.slice Ao30 y433.length co30, .slice Ao29 t437.length co29, .slice Ao28 t441.length co28, gb446) _ ⟨hHeld, (by (with_reducible repeat (first | apply Kd.R_alloc | apply Kd.R_drewN | apply Kd.R_drew)); exact HO424.out), (by (with_reducible repeat (first | apply Kd.R_alloc | apply Kd.R_drewN | apply Kd.R_drew)); exact Kd.R_mono HO428.out (fun _ hk => ⟨hk.1.1, ⟨hk.1.2, hk.2⟩⟩)), (by (with_reducible repeat (first | apply Kd.R_alloc | apply Kd.R_drewN | apply Kd.R_drew)); exact Kd.R_mono HO432.out (fun _ hk => ⟨hk.1.1, ⟨hk.1.2, hk.2⟩⟩)), (by (with_reducible repeat (first | apply Kd.R_alloc | apply Kd.R_drewN | apply Kd.R_drew)); exact HO435.out), (by (with_reducible repeat (first | apply Kd.R_alloc | apply Kd.R_drewN | apply Kd.R_drew)); exact Kd.R_mono HO439.out (fun _ hk => ⟨hk.1.1, ⟨hk.1.2, hk.2⟩⟩)), (by (with_reducible repeat (first | apply Kd.R_alloc | apply Kd.R_drewN | apply Kd.R_drew)); exact Kd.R_mono HO443.out (fun _ hk => ⟨hk.1.1.2, ⟨hk.1.2, hk.2⟩⟩)), (by (with_reducible repeat (first | refine blk_drewN ?_ _ | refine blk_drew ?_ | refine blk_alloc ?_ _)); exact BK421.out), (by (with_reducible repeat (first | refine blk_drewN ?_ _ | refine blk_drew ?_ | refine blk_alloc ?_ _)); exact BK446.out), GW446.out, GE446.out, NB421_446.out, NB446_421.out, (by repeat (first | (with_reducible first | exact HB.out | apply below_alloc | apply pw_below_drewN | apply below_drew1 | refine below_set ?_ GE421.out | refine below_set ?_ GE446.out) | exact HB.out))⟩)
          ·skip
           rintro ⟨v434, v438, v442⟩ w29 ⟨hS_, h0_, h1_, h2_, h3_, h4_, h5_, h6_, h7_⟩
           have n0_ : Aside0 (Kd.R Kd.string 9 w29 w.heap.size (fun _ => True) (.slice (some ad425) t422.length co17) t422) := ⟨h0_⟩
           have n1_ : Aside0 (Kd.R (Kd.int .i64) 2 w29 w.heap.size (fun k_ => some k_ ≠ (.slice (some ad444) t430.length co20 : Value).ownBlock ∧ some k_ ≠ (v438 : Value).ownBlock ∧ some k_ ≠ (v442 : Value).ownBlock) v427 t426) := ⟨h1_⟩
           have n2_ : Aside0 (Kd.R (Kd.int .i64) 2 w29 w.heap.size (fun k_ => some k_ ≠ (v427 : Value).ownBlock ∧ some k_ ≠ (v438 : Value).ownBlock ∧ some k_ ≠ (v442 : Value).ownBlock) (.slice (some ad444) t430.length co20) t430) := ⟨h2_⟩
           have n3_ : Aside0 (Kd.R k77 77 w29 w.heap.size (fun _ => True) v434 y433) := ⟨h3_⟩
           have n4_ : Aside0 (Kd.R (Kd.int .i64) 2 w29 w.heap.size (fun k_ => some k_ ≠ (v427 : Value).ownBlock ∧ some k_ ≠ (.slice (some ad444) t430.length co20 : Value).ownBlock ∧ some k_ ≠ (v442 : Value).ownBlock) v438 t437) := ⟨h4_⟩
           have n5_ : Aside0 (Kd.R (Kd.int .i64) 2 w29 w.heap.size (fun k_ => some k_ ≠ (v427 : Value).ownBlock ∧ some k_ ≠ (.slice (some ad444) t430.length co20 : Value).ownBlock ∧ some k_ ≠ (v438 : Value).ownBlock) v442 t441) := ⟨h5_⟩
           have n6_ : Aside0 (w29.heap[gb421]? = some (.cells #[.slice none 0 0, .slice none 0 0, .slice none 0 0, .int .i64 0, .int .i64 0] 31 (0, 0))) := ⟨h6_⟩
           have n7_ : Aside0 (Below w.heap.size w w29) := ⟨h7_⟩
           clear HO424
           clear HO428
           clear HO432
           clear BK421
           clear HB
           clear h0_ h1_ h2_ h3_ h4_ h5_ h6_ h7_
           have HO424 := n0_
           have HO428 := n1_
           have HO432 := n2_
           have HO435 := n3_
           have HO439 := n4_
           have HO443 := n5_
           have BK421 := n6_
           have HB := n7_
           clear n0_ n1_ n2_ n3_ n4_ n5_ n6_ n7_
           have hHeld : w29.cell? ⟨ad425.block, ad425.off + 1, none⟩ = some (.string (rdOf ByteArray.empty t422 1)) ∧ w29.cell? ⟨ad425.block, ad425.off + 2, none⟩ = some (.string (rdOf ByteArray.empty t422 2)) ∧ w29.cell? ad444 = some (.int .i64 (rd t430 0)) ∧ w29.cell? ⟨ad444.block, ad444.off + 1, none⟩ = some (.int .i64 (rd t430 1)) := hS_
           obtain ⟨Ao30, co30, eo30⟩ := Kd.R_slice HO443.out
           (first | subst eo30 | (injection eo30 with f1_ f2_ f3_; have f4_ := f1_.symm; have f5_ := f3_.symm; clear f1_ f2_ f3_; subst f4_; subst f5_))
           obtain ⟨Ao31, co31, eo31⟩ := Kd.R_slice HO439.out
           (first | subst eo31 | (injection eo31 with f1_ f2_ f3_; have f4_ := f1_.symm; have f5_ := f3_.symm; clear f1_ f2_ f3_; subst f4_; subst f5_))
           obtain ⟨Ao32, co32, eo32⟩ := Kd.R_slice HO435.out
           (first | subst eo32 | (injection eo32 with f1_ f2_ f3_; have f4_ := f1_.symm; have f5_ := f3_.symm; clear f1_ f2_ f3_; subst f4_; subst f5_))
           refine norm_ (a' := ?_) ?_ ?_
           rotate_left
           ·simp only [putAll, Act.put, qa_, qz_, qs_]
            rfl
           refine one_ (i := 16) (N := some 7) m17_13 rfl rfl (one_of HT_.out (by kernel_rfl)) (by decide) (fun K hK => ?_)
           refine box_step ?hg (N := 7) ?hd (cs := #[.slice none 0 0, .slice none 0 0, .slice none 0 0, .int .i64 0, .int .i64 0]) (t := 31) ?hr ?_; (case hd => rfl); (case hg => rfl); (case hr => first | (go_simp; done) | (go_simp; rfl))
           intro gb446 hg w33 hbox hb
           have HS0_ := (hb.cell (World.block_lt_of_cell? _ _ (hHeld.1))).trans (hHeld.1)
           have HS1_ := (hb.cell (World.block_lt_of_cell? _ _ (hHeld.2.1))).trans (hHeld.2.1)
           have HS2_ := (hb.cell (World.block_lt_of_cell? _ _ (hHeld.2.2.1))).trans (hHeld.2.2.1)
           have HS3_ := (hb.cell (World.block_lt_of_cell? _ _ (hHeld.2.2.2))).trans (hHeld.2.2.2)
           have n0_ := Aside0.mk (Kd.R_below (by (with_reducible repeat (first | apply Kd.R_alloc | apply Kd.R_drewN | apply Kd.R_drew)); exact HO424.out) hb)
           have n1_ := Aside0.mk (Kd.R_below (by (with_reducible repeat (first | apply Kd.R_alloc | apply Kd.R_drewN | apply Kd.R_drew)); exact HO428.out) hb)
           have n2_ := Aside0.mk (Kd.R_below (by (with_reducible repeat (first | apply Kd.R_alloc | apply Kd.R_drewN | apply Kd.R_drew)); exact HO432.out) hb)
           have n3_ := Aside0.mk (Kd.R_below (by (with_reducible repeat (first | apply Kd.R_alloc | apply Kd.R_drewN | apply Kd.R_drew)); exact HO435.out) hb)
           have n4_ := Aside0.mk (Kd.R_below (by (with_reducible repeat (first | apply Kd.R_alloc | apply Kd.R_drewN | apply Kd.R_drew)); exact HO439.out) hb)
           have n5_ := Aside0.mk (Kd.R_below (by (with_reducible repeat (first | apply Kd.R_alloc | apply Kd.R_drewN | apply Kd.R_drew)); exact HO443.out) hb)
           have n6_ := Aside0.mk (blk_below (g := gb421) (o := .cells #[.slice none 0 0, .slice none 0 0, .slice none 0 0, .int .i64 0, .int .i64 0] 31 (0, 0)) (by (with_reducible repeat (first | refine blk_drewN ?_ _ | refine blk_drew ?_ | refine blk_alloc ?_ _)); exact BK421.out) hb)
           have n7_ := Aside0.mk (below_step (by repeat (first | (with_reducible first | exact HB.out | apply below_alloc | apply pw_below_drewN | apply below_drew1 | refine below_set ?_ GE421.out) | exact HB.out)) hb)
           have n8_ := Aside0.mk (hbox)
           have n9_ := Aside0.mk ((by rw [hg]; exact (below_size (by repeat (first | (with_reducible first | exact HB.out | apply below_alloc | apply pw_below_drewN | apply below_drew1 | refine below_set ?_ GE421.out) | exact HB.out))) : w.heap.size ≤ gb446))
           have n10_ := Aside0.mk ((by rw [hg]; exact (below_size (by repeat (first | (with_reducible first | exact HB.out | apply below_alloc | apply pw_below_drewN | apply below_drew1 | refine below_set ?_ GE421.out) | exact HB.out))) : w.heap.size ≤ gb446))
           have n11_ := Aside0.mk ((by rw [hg]; exact Nat.ne_of_lt (blk_lt (g := gb421) (o := .cells #[.slice none 0 0, .slice none 0 0, .slice none 0 0, .int .i64 0, .int .i64 0] 31 (0, 0)) (by (with_reducible repeat (first | refine blk_drewN ?_ _ | refine blk_drew ?_ | refine blk_alloc ?_ _)); exact BK421.out)) : gb421 ≠ gb446))
           have n12_ := Aside0.mk ((by rw [hg]; exact Nat.ne_of_gt (blk_lt (g := gb421) (o := .cells #[.slice none 0 0, .slice none 0 0, .slice none 0 0, .int .i64 0, .int .i64 0] 31 (0, 0)) (by (with_reducible repeat (first | refine blk_drewN ?_ _ | refine blk_drew ?_ | refine blk_alloc ?_ _)); exact BK421.out)) : gb446 ≠ gb421))
           clear HO424
           clear HO428
           clear HO432
           clear HO435
           clear HO439
           clear HO443
           clear BK421
           clear HB
           have HO424 := n0_
           have HO428 := n1_
           have HO432 := n2_
           have HO435 := n3_
           have HO439 := n4_
           have HO443 := n5_
           have BK421 := n6_
           have HB := n7_
           have BK446 := n8_
           have GW446 := n9_
           have GE446 := n10_
           have NB421_446 := n11_
           have NB446_421 := n12_
           clear n0_ n1_ n2_ n3_ n4_ n5_ n6_ n7_ n8_ n9_ n10_ n11_ n12_
           clear hb hbox hg
           refine hK.out _ _ ⟨HS0_, HS1_, HS2_, HS3_⟩ (fun hHeld => ?_)
           clear hK K
           refine norm_ (a' := ?_) ?_ ?_
           rotate_left
           ·show Act.put _ (some 7) _ = _
            simp only [Act.put, qa_, qz_, qs_, i64_w, i32_w]
            rfl
           exact norm_ (by first | (simp only [putAll, Act.put, qa_, qz_, qs_]; done) | (simp only [putAll, Act.put, qa_, qz_, qs_]; rfl)) (hJ0_4_8_16 (.slice Ao32 y433.length co32, .slice Ao31 t437.length co31, .slice Ao30 t441.length co30, gb446) _ ⟨hHeld, (by (with_reducible repeat (first | apply Kd.R_alloc | apply Kd.R_drewN | apply Kd.R_drew)); exact HO424.out), (by (with_reducible repeat (first | apply Kd.R_alloc | apply Kd.R_drewN | apply Kd.R_drew)); exact HO428.out), (by (with_reducible repeat (first | apply Kd.R_alloc | apply Kd.R_drewN | apply Kd.R_drew)); exact HO432.out), (by (with_reducible repeat (first | apply Kd.R_alloc | apply Kd.R_drewN | apply Kd.R_drew)); exact HO435.out), (by (with_reducible repeat (first | apply Kd.R_alloc | apply Kd.R_drewN | apply Kd.R_drew)); exact HO439.out), (by (with_reducible repeat (first | apply Kd.R_alloc | apply Kd.R_drewN | apply Kd.R_drew)); exact HO443.out), (by (with_reducible repeat (first | refine blk_drewN ?_ _ | refine blk_drew ?_ | refine blk_alloc ?_ _)); exact BK421.out), (by (with_reducible repeat (first | refine blk_drewN ?_ _ | refine blk_drew ?_ | refine blk_alloc ?_ _)); exact BK446.out), GW446.out, GE446.out, NB421_446.out, NB446_421.out, (by repeat (first | (with_reducible first | exact HB.out | apply below_alloc | apply pw_below_drewN | apply below_drew1 | refine below_set ?_ GE421.out | refine below_set ?_ GE446.out) | exact HB.out))⟩)
         rintro ⟨v434, v438, v442, gb446⟩ w30 ⟨hS_, h0_, h1_, h2_, h3_, h4_, h5_, h6_, h7_, h8_, h9_, h10_, h11_, h12_⟩
         have n0_ : Aside0 (Kd.R Kd.string 9 w30 w.heap.size (fun _ => True) (.slice (some ad425) t422.length co17) t422) := ⟨h0_⟩
         have n1_ : Aside0 (Kd.R (Kd.int .i64) 2 w30 w.heap.size (fun k_ => some k_ ≠ (.slice (some ad444) t430.length co20 : Value).ownBlock ∧ some k_ ≠ (v438 : Value).ownBlock ∧ some k_ ≠ (v442 : Value).ownBlock) v427 t426) := ⟨h1_⟩
         have n2_ : Aside0 (Kd.R (Kd.int .i64) 2 w30 w.heap.size (fun k_ => some k_ ≠ (v427 : Value).ownBlock ∧ some k_ ≠ (v438 : Value).ownBlock ∧ some k_ ≠ (v442 : Value).ownBlock) (.slice (some ad444) t430.length co20) t430) := ⟨h2_⟩
         have n3_ : Aside0 (Kd.R k77 77 w30 w.heap.size (fun _ => True) v434 y433) := ⟨h3_⟩
         have n4_ : Aside0 (Kd.R (Kd.int .i64) 2 w30 w.heap.size (fun k_ => some k_ ≠ (v427 : Value).ownBlock ∧ some k_ ≠ (.slice (some ad444) t430.length co20 : Value).ownBlock ∧ some k_ ≠ (v442 : Value).ownBlock) v438 t437) := ⟨h4_⟩
         have n5_ : Aside0 (Kd.R (Kd.int .i64) 2 w30 w.heap.size (fun k_ => some k_ ≠ (v427 : Value).ownBlock ∧ some k_ ≠ (.slice (some ad444) t430.length co20 : Value).ownBlock ∧ some k_ ≠ (v438 : Value).ownBlock) v442 t441) := ⟨h5_⟩
         have n6_ : Aside0 (w30.heap[gb421]? = some (.cells #[.slice none 0 0, .slice none 0 0, .slice none 0 0, .int .i64 0, .int .i64 0] 31 (0, 0))) := ⟨h6_⟩
         have n7_ : Aside0 (w30.heap[gb446]? = some (.cells #[.slice none 0 0, .slice none 0 0, .slice none 0 0, .int .i64 0, .int .i64 0] 31 (0, 0))) := ⟨h7_⟩
         have n8_ : Aside0 (w.heap.size ≤ gb446) := ⟨h8_⟩
         have n9_ : Aside0 (w.heap.size ≤ gb446) := ⟨h9_⟩
         have n10_ : Aside0 (gb421 ≠ gb446) := ⟨h10_⟩
         have n11_ : Aside0 (gb446 ≠ gb421) := ⟨h11_⟩
         have n12_ : Aside0 (Below w.heap.size w w30) := ⟨h12_⟩
         clear HO424
         clear HO428
         clear HO432
         clear BK421
         clear HB
         clear h0_ h1_ h2_ h3_ h4_ h5_ h6_ h7_ h8_ h9_ h10_ h11_ h12_
         have HO424 := n0_
         have HO428 := n1_
         have HO432 := n2_
         have HO435 := n3_
         have HO439 := n4_
         have HO443 := n5_
         have BK421 := n6_
         have BK446 := n7_
         have GW446 := n8_
         have GE446 := n9_
         have NB421_446 := n10_
         have NB446_421 := n11_
         have HB := n12_
         clear n0_ n1_ n2_ n3_ n4_ n5_ n6_ n7_ n8_ n9_ n10_ n11_ n12_
         have hHeld : w30.cell? ⟨ad425.block, ad425.off + 1, none⟩ = some (.string (rdOf ByteArray.empty t422 1)) ∧ w30.cell? ⟨ad425.block, ad425.off + 2, none⟩ = some (.string (rdOf ByteArray.empty t422 2)) ∧ w30.cell? ad444 = some (.int .i64 (rd t430 0)) ∧ w30.cell? ⟨ad444.block, ad444.off + 1, none⟩ = some (.int .i64 (rd t430 1)) := hS_
         obtain ⟨Ao31, co31, eo31⟩ := Kd.R_slice HO443.out
         (first | subst eo31 | (injection eo31 with f1_ f2_ f3_; have f4_ := f1_.symm; have f5_ := f3_.symm; clear f1_ f2_ f3_; subst f4_; subst f5_))
         obtain ⟨Ao32, co32, eo32⟩ := Kd.R_slice HO439.out
         (first | subst eo32 | (injection eo32 with f1_ f2_ f3_; have f4_ := f1_.symm; have f5_ := f3_.symm; clear f1_ f2_ f3_; subst f4_; subst f5_))
         obtain ⟨Ao33, co33, eo33⟩ := Kd.R_slice HO435.out
         (first | subst eo33 | (injection eo33 with f1_ f2_ f3_; have f4_ := f1_.symm; have f5_ := f3_.symm; clear f1_ f2_ f3_; subst f4_; subst f5_))
         refine norm_ (a' := ?_) ?_ ?_
         rotate_left
         ·simp only [putAll, Act.put, qa_, qz_, qs_]
          rfl
         refine one_ (i := 17) (N := none) m17_26 rfl rfl (one_of HT_.out (by kernel_rfl)) (by decide) (fun K hK => ?_)
         have hs34 : w30.cell? ⟨gb446, 0, none⟩ = some (.slice none 0 0) := (blk_cell BK446.out 0).trans rfl
         have hfs34 := blk_frozen BK446.out 0
         have hns34_0 := NB421_446.out
         have hms34_0 := NB446_421.out
         have hs35 : w30.cell? ⟨gb446, 1, none⟩ = some (.slice none 0 0) := (blk_cell BK446.out 1).trans rfl
         have hfs35 := blk_frozen BK446.out 1
         have hns35_0 := NB421_446.out
         have hms35_0 := NB446_421.out
         have hs36 : w30.cell? ⟨gb446, 2, none⟩ = some (.slice none 0 0) := (blk_cell BK446.out 2).trans rfl
         have hfs36 := blk_frozen BK446.out 2
         have hns36_0 := NB421_446.out
         have hms36_0 := NB446_421.out
         have hs37 : w30.cell? ⟨gb446, 3, none⟩ = some (.int .i64 0) := (blk_cell BK446.out 3).trans rfl
         have hfs37 := blk_frozen BK446.out 3
         have hns37_0 := NB421_446.out
         have hms37_0 := NB446_421.out
         have hs38 : w30.cell? ⟨gb446, 4, none⟩ = some (.int .i64 0) := (blk_cell BK446.out 4).trans rfl
         have hfs38 := blk_frozen BK446.out 4
         have hns38_0 := NB421_446.out
         have hms38_0 := NB446_421.out
         refine skip_ (w1 := ?_) (by rfl) rfl ?_ ?_
         rotate_left
         ·go_simp
          rfl
         refine hK.out _ _ ⟨((cell_far (p := ⟨gb446, _, none⟩) (by first | exact Kd.own_blk (Kd.R_ne HO424.out BK446.out (by decide)) | (rw [add_block]; exact Kd.own_blk (Kd.R_ne HO424.out BK446.out (by decide))) | (show (Addr.add _ _).block ≠ _; rw [add_block]; exact Kd.own_blk (Kd.R_ne HO424.out BK446.out (by decide))) | (dsimp only; exact Kd.own_blk (Kd.R_ne HO424.out BK446.out (by decide)))) _).trans (((cell_far (p := ⟨gb446, _, none⟩) (by first | exact Kd.own_blk (Kd.R_ne HO424.out BK446.out (by decide)) | (rw [add_block]; exact Kd.own_blk (Kd.R_ne HO424.out BK446.out (by decide))) | (show (Addr.add _ _).block ≠ _; rw [add_block]; exact Kd.own_blk (Kd.R_ne HO424.out BK446.out (by decide))) | (dsimp only; exact Kd.own_blk (Kd.R_ne HO424.out BK446.out (by decide)))) _).trans (((cell_far (p := ⟨gb446, _, none⟩) (by first | exact Kd.own_blk (Kd.R_ne HO424.out BK446.out (by decide)) | (rw [add_block]; exact Kd.own_blk (Kd.R_ne HO424.out BK446.out (by decide))) | (show (Addr.add _ _).block ≠ _; rw [add_block]; exact Kd.own_blk (Kd.R_ne HO424.out BK446.out (by decide))) | (dsimp only; exact Kd.own_blk (Kd.R_ne HO424.out BK446.out (by decide)))) _).trans (((cell_far (p := ⟨gb446, _, none⟩) (by first | exact Kd.own_blk (Kd.R_ne HO424.out BK446.out (by decide)) | (rw [add_block]; exact Kd.own_blk (Kd.R_ne HO424.out BK446.out (by decide))) | (show (Addr.add _ _).block ≠ _; rw [add_block]; exact Kd.own_blk (Kd.R_ne HO424.out BK446.out (by decide))) | (dsimp only; exact Kd.own_blk (Kd.R_ne HO424.out BK446.out (by decide)))) _).trans (((cell_far (p := ⟨gb446, _, none⟩) (by first | exact Kd.own_blk (Kd.R_ne HO424.out BK446.out (by decide)) | (rw [add_block]; exact Kd.own_blk (Kd.R_ne HO424.out BK446.out (by decide))) | (show (Addr.add _ _).block ≠ _; rw [add_block]; exact Kd.own_blk (Kd.R_ne HO424.out BK446.out (by decide))) | (dsimp only; exact Kd.own_blk (Kd.R_ne HO424.out BK446.out (by decide)))) _).trans (hHeld.1)))))))))), ((cell_far (p := ⟨gb446, _, none⟩) (by first | exact Kd.own_blk (Kd.R_ne HO424.out BK446.out (by decide)) | (rw [add_block]; exact Kd.own_blk (Kd.R_ne HO424.out BK446.out (by decide))) | (show (Addr.add _ _).block ≠ _; rw [add_block]; exact Kd.own_blk (Kd.R_ne HO424.out BK446.out (by decide))) | (dsimp only; exact Kd.own_blk (Kd.R_ne HO424.out BK446.out (by decide)))) _).trans (((cell_far (p := ⟨gb446, _, none⟩) (by first | exact Kd.own_blk (Kd.R_ne HO424.out BK446.out (by decide)) | (rw [add_block]; exact Kd.own_blk (Kd.R_ne HO424.out BK446.out (by decide))) | (show (Addr.add _ _).block ≠ _; rw [add_block]; exact Kd.own_blk (Kd.R_ne HO424.out BK446.out (by decide))) | (dsimp only; exact Kd.own_blk (Kd.R_ne HO424.out BK446.out (by decide)))) _).trans (((cell_far (p := ⟨gb446, _, none⟩) (by first | exact Kd.own_blk (Kd.R_ne HO424.out BK446.out (by decide)) | (rw [add_block]; exact Kd.own_blk (Kd.R_ne HO424.out BK446.out (by decide))) | (show (Addr.add _ _).block ≠ _; rw [add_block]; exact Kd.own_blk (Kd.R_ne HO424.out BK446.out (by decide))) | (dsimp only; exact Kd.own_blk (Kd.R_ne HO424.out BK446.out (by decide)))) _).trans (((cell_far (p := ⟨gb446, _, none⟩) (by first | exact Kd.own_blk (Kd.R_ne HO424.out BK446.out (by decide)) | (rw [add_block]; exact Kd.own_blk (Kd.R_ne HO424.out BK446.out (by decide))) | (show (Addr.add _ _).block ≠ _; rw [add_block]; exact Kd.own_blk (Kd.R_ne HO424.out BK446.out (by decide))) | (dsimp only; exact Kd.own_blk (Kd.R_ne HO424.out BK446.out (by decide)))) _).trans (((cell_far (p := ⟨gb446, _, none⟩) (by first | exact Kd.own_blk (Kd.R_ne HO424.out BK446.out (by decide)) | (rw [add_block]; exact Kd.own_blk (Kd.R_ne HO424.out BK446.out (by decide))) | (show (Addr.add _ _).block ≠ _; rw [add_block]; exact Kd.own_blk (Kd.R_ne HO424.out BK446.out (by decide))) | (dsimp only; exact Kd.own_blk (Kd.R_ne HO424.out BK446.out (by decide)))) _).trans (hHeld.2.1)))))))))), ((cell_far (p := ⟨gb446, _, none⟩) (by first | exact Kd.own_blk (Kd.R_ne HO432.out BK446.out (by decide)) | (rw [add_block]; exact Kd.own_blk (Kd.R_ne HO432.out BK446.out (by decide))) | (show (Addr.add _ _).block ≠ _; rw [add_block]; exact Kd.own_blk (Kd.R_ne HO432.out BK446.out (by decide))) | (dsimp only; exact Kd.own_blk (Kd.R_ne HO432.out BK446.out (by decide)))) _).trans (((cell_far (p := ⟨gb446, _, none⟩) (by first | exact Kd.own_blk (Kd.R_ne HO432.out BK446.out (by decide)) | (rw [add_block]; exact Kd.own_blk (Kd.R_ne HO432.out BK446.out (by decide))) | (show (Addr.add _ _).block ≠ _; rw [add_block]; exact Kd.own_blk (Kd.R_ne HO432.out BK446.out (by decide))) | (dsimp only; exact Kd.own_blk (Kd.R_ne HO432.out BK446.out (by decide)))) _).trans (((cell_far (p := ⟨gb446, _, none⟩) (by first | exact Kd.own_blk (Kd.R_ne HO432.out BK446.out (by decide)) | (rw [add_block]; exact Kd.own_blk (Kd.R_ne HO432.out BK446.out (by decide))) | (show (Addr.add _ _).block ≠ _; rw [add_block]; exact Kd.own_blk (Kd.R_ne HO432.out BK446.out (by decide))) | (dsimp only; exact Kd.own_blk (Kd.R_ne HO432.out BK446.out (by decide)))) _).trans (((cell_far (p := ⟨gb446, _, none⟩) (by first | exact Kd.own_blk (Kd.R_ne HO432.out BK446.out (by decide)) | (rw [add_block]; exact Kd.own_blk (Kd.R_ne HO432.out BK446.out (by decide))) | (show (Addr.add _ _).block ≠ _; rw [add_block]; exact Kd.own_blk (Kd.R_ne HO432.out BK446.out (by decide))) | (dsimp only; exact Kd.own_blk (Kd.R_ne HO432.out BK446.out (by decide)))) _).trans (((cell_far (p := ⟨gb446, _, none⟩) (by first | exact Kd.own_blk (Kd.R_ne HO432.out BK446.out (by decide)) | (rw [add_block]; exact Kd.own_blk (Kd.R_ne HO432.out BK446.out (by decide))) | (show (Addr.add _ _).block ≠ _; rw [add_block]; exact Kd.own_blk (Kd.R_ne HO432.out BK446.out (by decide))) | (dsimp only; exact Kd.own_blk (Kd.R_ne HO432.out BK446.out (by decide)))) _).trans (hHeld.2.2.1)))))))))), ((cell_far (p := ⟨gb446, _, none⟩) (by first | exact Kd.own_blk (Kd.R_ne HO432.out BK446.out (by decide)) | (rw [add_block]; exact Kd.own_blk (Kd.R_ne HO432.out BK446.out (by decide))) | (show (Addr.add _ _).block ≠ _; rw [add_block]; exact Kd.own_blk (Kd.R_ne HO432.out BK446.out (by decide))) | (dsimp only; exact Kd.own_blk (Kd.R_ne HO432.out BK446.out (by decide)))) _).trans (((cell_far (p := ⟨gb446, _, none⟩) (by first | exact Kd.own_blk (Kd.R_ne HO432.out BK446.out (by decide)) | (rw [add_block]; exact Kd.own_blk (Kd.R_ne HO432.out BK446.out (by decide))) | (show (Addr.add _ _).block ≠ _; rw [add_block]; exact Kd.own_blk (Kd.R_ne HO432.out BK446.out (by decide))) | (dsimp only; exact Kd.own_blk (Kd.R_ne HO432.out BK446.out (by decide)))) _).trans (((cell_far (p := ⟨gb446, _, none⟩) (by first | exact Kd.own_blk (Kd.R_ne HO432.out BK446.out (by decide)) | (rw [add_block]; exact Kd.own_blk (Kd.R_ne HO432.out BK446.out (by decide))) | (show (Addr.add _ _).block ≠ _; rw [add_block]; exact Kd.own_blk (Kd.R_ne HO432.out BK446.out (by decide))) | (dsimp only; exact Kd.own_blk (Kd.R_ne HO432.out BK446.out (by decide)))) _).trans (((cell_far (p := ⟨gb446, _, none⟩) (by first | exact Kd.own_blk (Kd.R_ne HO432.out BK446.out (by decide)) | (rw [add_block]; exact Kd.own_blk (Kd.R_ne HO432.out BK446.out (by decide))) | (show (Addr.add _ _).block ≠ _; rw [add_block]; exact Kd.own_blk (Kd.R_ne HO432.out BK446.out (by decide))) | (dsimp only; exact Kd.own_blk (Kd.R_ne HO432.out BK446.out (by decide)))) _).trans (((cell_far (p := ⟨gb446, _, none⟩) (by first | exact Kd.own_blk (Kd.R_ne HO432.out BK446.out (by decide)) | (rw [add_block]; exact Kd.own_blk (Kd.R_ne HO432.out BK446.out (by decide))) | (show (Addr.add _ _).block ≠ _; rw [add_block]; exact Kd.own_blk (Kd.R_ne HO432.out BK446.out (by decide))) | (dsimp only; exact Kd.own_blk (Kd.R_ne HO432.out BK446.out (by decide)))) _).trans (hHeld.2.2.2))))))))))⟩ (fun hHeld => ?_)
         clear hK K
         refine done_ (done_of HT_.out (by kernel_rfl)) ?_
         try go_wp2
         go_loopg [8] k (fun kq v8 w' => ∃ (x8_1 : Int) (x447000_1 : List (S77)) (u447000 : Value), v8 = .int .i64 x8_1 ∧ Aside0 (spec_ReadHead.l0 kq a0 t426 x8_1 x447000_1 t437 t441 (rd t430 0) (rd t430 1) = some (r1, r2, r3, r4, r5, r6)) ∧ Aside0 (kq ≤ k) ∧ Aside0 (Kd.R (Kd.int .i64) 2 w' w.heap.size (fun k_ => some k_ ≠ ((.slice Ao32 t437.length co32) : Value).ownBlock ∧ some k_ ≠ ((.slice Ao31 t441.length co31) : Value).ownBlock) v427 t426) ∧ Aside0 (Kd.R k77 77 w' w.heap.size (fun _ => True) u447000 x447000_1) ∧ Aside0 (Kd.R (Kd.int .i64) 2 w' w.heap.size (fun k_ => some k_ ≠ (v427 : Value).ownBlock ∧ some k_ ≠ ((.slice Ao31 t441.length co31) : Value).ownBlock) (.slice Ao32 t437.length co32) t437) ∧ Aside0 (Kd.R (Kd.int .i64) 2 w' w.heap.size (fun k_ => some k_ ≠ (v427 : Value).ownBlock ∧ some k_ ≠ ((.slice Ao32 t437.length co32) : Value).ownBlock) (.slice Ao31 t441.length co31) t441) ∧ Aside0 (w'.heap[gb421]? = some (.cells #[(.slice none 0 0), (.slice none 0 0), (.slice none 0 0), .int .i64 0, .int .i64 0] 31 (0, 0))) ∧ Aside0 (w'.heap[gb446]? = some (.cells #[u447000, (.slice Ao32 t437.length co32), (.slice Ao31 t441.length co31), .int .i64 (rd t430 0), .int .i64 (rd t430 1)] 31 (0, 0))) ∧ Aside0 (Below w.heap.size w w'))
         case atStart => exact ⟨(0), (y433), (.slice Ao33 y433.length co33), (by first | rfl | (simp; done) | (simp [*]; done) | (simp [tz_, *]; done)), H', ⟨Nat.le_refl _⟩, ⟨by (with_reducible repeat (first | apply Kd.R_alloc | apply Kd.R_drewN | apply Kd.R_drew)); exact Kd.R_mono (Kd.R_far (p := ⟨gb446, 4, none⟩) (Kd.R_far (p := ⟨gb446, 3, none⟩) (Kd.R_far (p := ⟨gb446, 2, none⟩) (Kd.R_far (p := ⟨gb446, 1, none⟩) (Kd.R_far (p := ⟨gb446, 0, none⟩) (Kd.R_types HO428.out BK446.out (by decide)) (fun _ hk => hk.2) (.slice Ao33 y433.length co33)) (fun _ hk => hk.2) (.slice Ao32 t437.length co32)) (fun _ hk => hk.2) (.slice Ao31 t441.length co31)) (fun _ hk => hk.2) (.int .i64 (rd t430 0))) (fun _ hk => hk.2) (.int .i64 (rd t430 1))) (fun _ hk => ⟨hk.1.2.1, hk.1.2.2⟩)⟩, ⟨by (with_reducible repeat (first | apply Kd.R_alloc | apply Kd.R_drewN | apply Kd.R_drew)); exact Kd.R_mono (Kd.R_far (p := ⟨gb446, 4, none⟩) (Kd.R_far (p := ⟨gb446, 3, none⟩) (Kd.R_far (p := ⟨gb446, 2, none⟩) (Kd.R_far (p := ⟨gb446, 1, none⟩) (Kd.R_far (p := ⟨gb446, 0, none⟩) (Kd.R_types HO435.out BK446.out (by decide)) (fun _ hk => hk.2) (.slice Ao33 y433.length co33)) (fun _ hk => hk.2) (.slice Ao32 t437.length co32)) (fun _ hk => hk.2) (.slice Ao31 t441.length co31)) (fun _ hk => hk.2) (.int .i64 (rd t430 0))) (fun _ hk => hk.2) (.int .i64 (rd t430 1))) (fun _ hk => trivial)⟩, ⟨by (with_reducible repeat (first | apply Kd.R_alloc | apply Kd.R_drewN | apply Kd.R_drew)); exact Kd.R_mono (Kd.R_far (p := ⟨gb446, 4, none⟩) (Kd.R_far (p := ⟨gb446, 3, none⟩) (Kd.R_far (p := ⟨gb446, 2, none⟩) (Kd.R_far (p := ⟨gb446, 1, none⟩) (Kd.R_far (p := ⟨gb446, 0, none⟩) (Kd.R_types HO439.out BK446.out (by decide)) (fun _ hk => hk.2) (.slice Ao33 y433.length co33)) (fun _ hk => hk.2) (.slice Ao32 t437.length co32)) (fun _ hk => hk.2) (.slice Ao31 t441.length co31)) (fun _ hk => hk.2) (.int .i64 (rd t430 0))) (fun _ hk => hk.2) (.int .i64 (rd t430 1))) (fun _ hk => ⟨hk.1.1, hk.1.2.2⟩)⟩, ⟨by (with_reducible repeat (first | apply Kd.R_alloc | apply Kd.R_drewN | apply Kd.R_drew)); exact Kd.R_mono (Kd.R_far (p := ⟨gb446, 4, none⟩) (Kd.R_far (p := ⟨gb446, 3, none⟩) (Kd.R_far (p := ⟨gb446, 2, none⟩) (Kd.R_far (p := ⟨gb446, 1, none⟩) (Kd.R_far (p := ⟨gb446, 0, none⟩) (Kd.R_types HO443.out BK446.out (by decide)) (fun _ hk => hk.2) (.slice Ao33 y433.length co33)) (fun _ hk => hk.2) (.slice Ao32 t437.length co32)) (fun _ hk => hk.2) (.slice Ao31 t441.length co31)) (fun _ hk => hk.2) (.int .i64 (rd t430 0))) (fun _ hk => hk.2) (.int .i64 (rd t430 1))) (fun _ hk => ⟨hk.1.1, hk.1.2.2⟩)⟩, ⟨by (with_reducible repeat (first | refine blk_drewN ?_ _ | refine blk_drew ?_ | refine blk_alloc ?_ _)); refine blk_far ?_ NB421_446.out _; (with_reducible repeat (first | refine blk_drewN ?_ _ | refine blk_drew ?_ | refine blk_alloc ?_ _)); refine blk_far ?_ NB421_446.out _; (with_reducible repeat (first | refine blk_drewN ?_ _ | refine blk_drew ?_ | refine blk_alloc ?_ _)); refine blk_far ?_ NB421_446.out _; (with_reducible repeat (first | refine blk_drewN ?_ _ | refine blk_drew ?_ | refine blk_alloc ?_ _)); refine blk_far ?_ NB421_446.out _; (with_reducible repeat (first | refine blk_drewN ?_ _ | refine blk_drew ?_ | refine blk_alloc ?_ _)); refine blk_far ?_ NB421_446.out _; (with_reducible repeat (first | refine blk_drewN ?_ _ | refine blk_drew ?_ | refine blk_alloc ?_ _)); exact BK421.out⟩, ⟨by (with_reducible repeat (first | refine blk_drewN ?_ _ | refine blk_drew ?_ | refine blk_alloc ?_ _)); refine blk_put (cs := #[.slice Ao33 y433.length co33, .slice Ao32 t437.length co32, .slice Ao31 t441.length co31, .int .i64 (rd t430 0), .int .i64 0]) ?_ 4 _ rfl; (with_reducible repeat (first | refine blk_drewN ?_ _ | refine blk_drew ?_ | refine blk_alloc ?_ _)); refine blk_put (cs := #[.slice Ao33 y433.length co33, .slice Ao32 t437.length co32, .slice Ao31 t441.length co31, .int .i64 0, .int .i64 0]) ?_ 3 _ rfl; (with_reducible repeat (first | refine blk_drewN ?_ _ | refine blk_drew ?_ | refine blk_alloc ?_ _)); refine blk_put (cs := #[.slice Ao33 y433.length co33, .slice Ao32 t437.length co32, .slice none 0 0, .int .i64 0, .int .i64 0]) ?_ 2 _ rfl; (with_reducible repeat (first | refine blk_drewN ?_ _ | refine blk_drew ?_ | refine blk_alloc ?_ _)); refine blk_put (cs := #[.slice Ao33 y433.length co33, .slice none 0 0, .slice none 0 0, .int .i64 0, .int .i64 0]) ?_ 1 _ rfl; (with_reducible repeat (first | refine blk_drewN ?_ _ | refine blk_drew ?_ | refine blk_alloc ?_ _)); refine blk_put (cs := #[.slice none 0 0, .slice none 0 0, .slice none 0 0, .int .i64 0, .int .i64 0]) ?_ 0 _ rfl; (with_reducible repeat (first | refine blk_drewN ?_ _ | refine blk_drew ?_ | refine blk_alloc ?_ _)); exact BK446.out⟩, ⟨by repeat (first | (with_reducible first | exact HB.out | apply below_alloc | apply pw_below_drewN | apply below_drew1 | refine below_set ?_ GE421.out | refine below_set ?_ GE446.out) | exact HB.out)⟩⟩
         case round =>
          clear H'
          try clear p2
          try clear c4
          obtain ⟨x8_1, x447000_1, u447000, rfl, HA, HK1, HO_5, HO_447000, HO_447001, HO_447002, BK421, BK446, HB⟩ := hrel
          cases gk with
          | zero => exact absurd HA.out (by simp [spec_ReadHead.l0])
          | succ k1 =>
           have H := HA.out
           clear HA
           simp only [spec_ReadHead.l0] at H
           by_cases c39 : (wrap64 (x8_1 + 1)) < (t426.length : Int)
           ·rw [if_pos c39] at H
            have c39b0 : decide ((wrap64 (x8_1 + 1)) < (t426.length : Int)) = true := decide_eq_true c39
            clear c39
            by_cases c40 : 0 ≤ x8_1
            ·rw [if_pos c40] at H
             have c40b0 : decide (0 ≤ x8_1) = true := decide_eq_true c40
             clear c40
             by_cases c41 : x8_1 < (t426.length : Int)
             ·rw [if_pos c41] at H
              have c41b0 : decide (x8_1 < (t426.length : Int)) = true := decide_eq_true c41
              clear c41
              obtain ⟨ji42, hji42⟩ : ∃ j_ : Int, (wrap64 (x8_1 + 1)) = j_ := ⟨_, rfl⟩
              replace H : (if 0 ≤ (ji42) then (if x447000_1.length < 8796093022208 then (spec_ReadHead.l0 k1 a0 t426 (wrap64 (x8_1 + 2)) (x447000_1 ++ [(⟨rd t426 x8_1, rd t426 (ji42)⟩ : S77)]) t437 t441 (rd t430 0) (rd t430 1)) else (none)) else (none)) = some (r1, r2, r3, r4, r5, r6) := by first | (rw [hji42] at H; exact H) | (simp only [hji42] at H ⊢; exact H)
              (try rw [hji42] at c39b0)
              have hji42w : (IntKind.i64.wrap (x8_1 + 1)) = ji42 := (i64_w _).trans hji42
              by_cases c43 : 0 ≤ (ji42)
              ·rw [if_pos c43] at H
               have c43b0 : decide (0 ≤ (ji42)) = true := decide_eq_true c43
               clear c43
               by_cases c44 : x447000_1.length < 8796093022208
               ·rw [if_pos c44] at H
                have LMc44 := Aside0.mk c44
                clear c44
                obtain ⟨y449, hy449⟩ : ∃ y_ : List (S77), y_ = (x447000_1 ++ [(⟨rd t426 x8_1, rd t426 (ji42)⟩ : S77)]) := ⟨_, rfl⟩
                replace H : (spec_ReadHead.l0 k1 a0 t426 (wrap64 (x8_1 + 2)) y449 t437 t441 (rd t430 0) (rd t430 1)) = some (r1, r2, r3, r4, r5, r6) := by first | (rw [hy449]; with_reducible exact H) | (have H2_ := (Option.bind_some _ _).symm.trans H; rw [hy449]; with_reducible exact H2_) | (have H2_ := (Option.bind_some _ _).symm.trans H; with_reducible exact H2_) | with_reducible exact H | (rw [hy449]; exact H) | exact H
                have Ny449 := Aside0.mk hy449
                clear hy449
                have H' := Aside0.mk H
                clear H
                obtain ⟨Ao45, co45, eo45⟩ := Kd.R_slice HO_5.out
                subst eo45
                try go_wp2
                have n0_ := Aside0.mk (Kd.R_drew HO_5.out)
                have n1_ := Aside0.mk (Kd.R_drew HO_447000.out)
                have n2_ := Aside0.mk (Kd.R_drew HO_447001.out)
                have n3_ := Aside0.mk (Kd.R_drew HO_447002.out)
                have n4_ := Aside0.mk (blk_drew BK421.out)
                have n5_ := Aside0.mk (blk_drew BK446.out)
                have n6_ := Aside0.mk (below_drew1 HB.out)
                clear HO_5
                clear HO_447000
                clear HO_447001
                clear HO_447002
                clear BK421
                clear BK446
                clear HB
                have HO_5 := n0_
                have HO_447000 := n1_
                have HO_447001 := n2_
                have HO_447002 := n3_
                have BK421 := n4_
                have BK446 := n5_
                have HB := n6_
                clear n0_ n1_ n2_ n3_ n4_ n5_ n6_
                have p447 : 0 ≤ (x8_1 : Int) := of_decide_eq_true (by assumption)
                have q447 : x8_1 < (t426.length : Int) := of_decide_eq_true (by assumption)
                obtain ⟨ad447, e447, hx447_0⟩ := Kd.at_int (Kd.R_reads' HO_5.out).2.2 x8_1 p447 q447
                cases e447
                replace p447 := eq_true p447
                replace q447 := eq_true q447
                have p448 : 0 ≤ ((ji42) : Int) := of_decide_eq_true (by assumption)
                have q448 : (ji42) < (t426.length : Int) := of_decide_eq_true (by assumption)
                obtain ⟨ad448, e448, hx448_0⟩ := Kd.at_int (Kd.R_reads' HO_5.out).2.2 (ji42) p448 q448
                obtain rfl : ad447 = ad448 := (by injection e448)
                replace p448 := eq_true p448
                replace q448 := eq_true q448
                refine start_ (n := 16) (S := fun w' => w'.cell? ⟨gb446, 0, none⟩ = some (u447000) ∧ w'.cell? ⟨gb446, 1, none⟩ = some (.slice Ao32 t437.length co32) ∧ w'.cell? ⟨gb446, 2, none⟩ = some (.slice Ao31 t441.length co31) ∧ w'.cell? ⟨gb446, 3, none⟩ = some (.int .i64 (rd t430 0)) ∧ w'.cell? ⟨gb446, 4, none⟩ = some (.int .i64 (rd t430 1)) ∧ w'.cell? (ad447.add (x8_1).toNat) = some (.int .i64 (rd t426 x8_1)) ∧ w'.cell? (ad447.add ((ji42)).toNat) = some (.int .i64 (rd t426 (ji42)))) (ds := [13, 15]) m17_27 (by kernel_rfl) rfl rfl ⟨(blk_cell BK446.out 0).trans rfl, (blk_cell BK446.out 1).trans rfl, (blk_cell BK446.out 2).trans rfl, (blk_cell BK446.out 3).trans rfl, (blk_cell BK446.out 4).trans rfl, hx447_0, hx448_0⟩ (fun hHeld => ?_); refine with_tabW spec_ReadHead.tab12 spec_ReadHead.bits12 (fun HT_ HW_ => ?_)
                generalize wr.drew = w46 at HO_5 HO_447000 HO_447001 HO_447002 BK421 BK446 HB hx447_0 hx448_0 hHeld ⊢
                refine pure_ (i := 0) (N := some 50) (v := ?_) (a' := ?_) m17_28 rfl rfl (any_of HT_.out (by kernel_rfl)) (fun _ _ _ h => h) (Or.inl ⟨by rfl, ?_⟩) ?_ ?_
                rotate_left
                ·intro w'
                 go_simp
                 with_reducible rfl
                rotate_left
                ·simp only [Act.put, qa_, qz_, qs_, i64_w, i32_w]
                 rfl
                refine pure_ (i := 2) (N := some 52) (v := ?_) (a' := ?_) m17_29 rfl rfl (any_of HT_.out (by kernel_rfl)) (fun _ _ _ h => h) (Or.inl ⟨by rfl, ?_⟩) ?_ ?_
                rotate_left
                ·intro w'
                 go_simp
                 with_reducible rfl
                rotate_left
                ·simp only [Act.put, qa_, qz_, qs_, i64_w, i32_w]
                 rfl
                refine pure_ (i := 3) (N := some 53) (v := ?_) (a' := ?_) m17_30 rfl rfl (any_of HT_.out (by kernel_rfl)) (fun _ _ _ h => h) (Or.inl ⟨by rfl, ?_⟩) ?_ ?_
                rotate_left
                ·intro w'
                 go_simp
                 with_reducible rfl
                rotate_left
                ·simp only [Act.put, qa_, qz_, qs_, i64_w, i32_w]
                 rfl
                refine pure_ (i := 4) (N := some 54) (v := ?_) (a' := ?_) m17_31 rfl rfl (any_of HT_.out (by kernel_rfl)) (fun _ _ _ h => h) (Or.inl ⟨by rfl, ?_⟩) ?_ ?_
                rotate_left
                ·intro w'
                 go_simp
                 with_reducible rfl
                rotate_left
                ·simp only [Act.put, qa_, qz_, qs_, i64_w, i32_w]
                 rfl
                refine pure_ (i := 6) (N := some 56) (v := ?_) (a' := ?_) m17_32 rfl rfl (any_of HT_.out (by kernel_rfl)) (fun _ _ _ h => h) (Or.inl ⟨by rfl, ?_⟩) ?_ ?_
                rotate_left
                ·intro w'
                 go_simp
                 with_reducible rfl
                rotate_left
                ·simp only [Act.put, qa_, qz_, qs_, i64_w, i32_w]
                 rfl
                refine pure_ (i := 7) (N := some 57) (v := ?_) (a' := ?_) m17_33 rfl rfl (any_of HT_.out (by kernel_rfl)) (fun _ _ _ h => h) (Or.inl ⟨by rfl, ?_⟩) ?_ ?_
                rotate_left
                ·intro w'
                 go_simp
                 with_reducible rfl
                rotate_left
                ·simp only [Act.put, qa_, qz_, qs_, i64_w, i32_w]
                 rfl
                refine pure_ (i := 8) (N := some 58) (v := ?_) (a' := ?_) m17_34 rfl rfl (any_of HT_.out (by kernel_rfl)) (fun _ _ _ h => h) (Or.inl ⟨by rfl, ?_⟩) ?_ ?_
                rotate_left
                ·intro w'
                 go_simp
                 with_reducible rfl
                rotate_left
                ·simp only [Act.put, qa_, qz_, qs_, i64_w, i32_w]
                 rfl
                refine pure_ (i := 9) (N := some 59) (v := ?_) (a' := ?_) m17_35 rfl rfl (any_of HT_.out (by kernel_rfl)) (fun _ _ _ h => h) (Or.inl ⟨by rfl, ?_⟩) ?_ ?_
                rotate_left
                ·intro w'
                 go_simp
                 with_reducible rfl
                rotate_left
                ·simp only [Act.put, qa_, qz_, qs_, i64_w, i32_w]
                 rfl
                refine take_ (i := 1) (N := some 51) (v := ?_) (a' := ?_) m17_36 rfl rfl (take_ofW HT_.out HW_.out (by kernel_rfl)) (fun _ _ _ h => h) (Or.inl ⟨by rfl, ?_⟩) hHeld ?_ ?_
                rotate_left
                ·rintro w' ⟨s0, s1, s2, s3, s4, s5, s6⟩
                 go_simp
                 with_reducible rfl
                rotate_left
                ·simp only [Act.put, qa_, qz_, qs_, i64_w, i32_w]
                 rfl
                refine take_ (i := 5) (N := some 55) (v := ?_) (a' := ?_) m17_37 rfl rfl (take_ofW HT_.out HW_.out (by kernel_rfl)) (fun _ _ _ h => h) (Or.inl ⟨by rfl, ?_⟩) hHeld ?_ ?_
                rotate_left
                ·rintro w' ⟨s0, s1, s2, s3, s4, s5, s6⟩
                 go_simp
                 with_reducible rfl
                rotate_left
                ·simp only [Act.put, qa_, qz_, qs_, i64_w, i32_w]
                 rfl
                refine take_ (i := 10) (N := some 60) (v := ?_) (a' := ?_) m17_38 rfl rfl (take_ofW HT_.out HW_.out (by kernel_rfl)) (fun _ _ _ h => h) (Or.inl ⟨by rfl, ?_⟩) hHeld ?_ ?_
                rotate_left
                ·rintro w' ⟨s0, s1, s2, s3, s4, s5, s6⟩
                 go_simp
                 with_reducible rfl
                rotate_left
                ·simp only [Act.put, qa_, qz_, qs_, i64_w, i32_w]
                 rfl
                refine pure_ (i := 11) (N := some 61) (v := ?_) (a' := ?_) m17_39 rfl rfl (any_of HT_.out (by kernel_rfl)) (fun _ _ _ h => h) (Or.inl ⟨by rfl, ?_⟩) ?_ ?_
                rotate_left
                ·intro w'
                 go_simp
                 with_reducible rfl
                rotate_left
                ·simp only [Act.put, qa_, qz_, qs_, i64_w, i32_w]
                 rfl
                refine one_ (i := 12) (N := some 62) m17_40 rfl rfl (one_of HT_.out (by kernel_rfl)) (by decide) (fun K hK => ?_)
                refine value_ (w1 := ?_) (v := ?_) (by rfl) rfl ?_ ?_
                rotate_left 2
                ·go_simp
                 constructor
                 ·rfl
                 ·rfl
                refine hK.out _ _ ⟨(blk_cell (blk_alloc BK446.out _) 0).trans rfl, (blk_cell (blk_alloc BK446.out _) 1).trans rfl, (blk_cell (blk_alloc BK446.out _) 2).trans rfl, (blk_cell (blk_alloc BK446.out _) 3).trans rfl, (blk_cell (blk_alloc BK446.out _) 4).trans rfl, (World.cell?_alloc_lt _ _ _ (World.block_lt_of_cell? _ _ (hHeld.2.2.2.2.2.1))).trans (hHeld.2.2.2.2.2.1), (World.cell?_alloc_lt _ _ _ (World.block_lt_of_cell? _ _ (hHeld.2.2.2.2.2.2))).trans (hHeld.2.2.2.2.2.2)⟩ (fun hHeld => ?_)
                clear hK K
                refine norm_ (a' := ?_) ?_ ?_
                rotate_left
                ·show Act.put _ (some 62) _ = _
                 simp only [Act.put, qa_, qz_, qs_, i64_w, i32_w]
                 rfl
                refine last_ (i := 13) (N := some 63) m17_41 rfl rfl (one_of HT_.out (by kernel_rfl)) (by decide) (fun K hK => ?_)
                refine Kd.R_append_step k77 (w0 := w) w.heap.size (by rfl) (.tmp 51) (.tmp 62) 29 77 (.agg #[(.int .i64 0), (.int .i64 0)]) 16 rfl Tryd.underlying29 info77 rfl (by decide) (by omega) u447000 x447000_1 (⟨rd t426 x8_1, rd t426 (ji42)⟩ : S77) [.int .i64 (rd t426 x8_1), .int .i64 (rd t426 (ji42))] (fun _ => True) (fun _ => False) rfl rfl ?aP (fun _ hk => hk.elim) ?aF ?aO ?aB ?aS ?aL ?_
                (case aP => exact k77_mkM _ _ _ (⟨rd t426 x8_1, rd t426 (ji42)⟩ : S77))
                (case aB => exact (by repeat (first | (with_reducible first | exact HB.out | apply below_alloc | apply pw_below_drewN | apply below_drew1 | refine below_set ?_ GE421.out | refine below_set ?_ GE446.out) | exact HB.out)))
                (case aF => exact (fun _ _ => trivial))
                (case aO => exact (by (with_reducible repeat (first | apply Kd.R_alloc | apply Kd.R_drewN | apply Kd.R_drew)); exact HO_447000.out))
                (case aS => exact (below_size (by repeat (first | (with_reducible first | exact HB.out | apply below_alloc | apply pw_below_drewN | apply below_drew1 | refine below_set ?_ GE421.out | refine below_set ?_ GE446.out) | exact HB.out))))
                (case aL => have := LMc44.out; omega)
                intro v450 w47 ho hb hg hat
                rw [← Ny449.out] at ho
                have n0_ := Aside0.mk (Kd.R_over' (by (with_reducible repeat (first | apply Kd.R_alloc | apply Kd.R_drewN | apply Kd.R_drew)); exact HO_5.out) (Kd.R_typed (by (with_reducible repeat (first | apply Kd.R_alloc | apply Kd.R_drewN | apply Kd.R_drew)); exact HO_447000.out)) (by decide) hg)
                have n1_ := Aside0.mk (Kd.R_over' (by (with_reducible repeat (first | apply Kd.R_alloc | apply Kd.R_drewN | apply Kd.R_drew)); exact HO_447001.out) (Kd.R_typed (by (with_reducible repeat (first | apply Kd.R_alloc | apply Kd.R_drewN | apply Kd.R_drew)); exact HO_447000.out)) (by decide) hg)
                have n2_ := Aside0.mk (Kd.R_over' (by (with_reducible repeat (first | apply Kd.R_alloc | apply Kd.R_drewN | apply Kd.R_drew)); exact HO_447002.out) (Kd.R_typed (by (with_reducible repeat (first | apply Kd.R_alloc | apply Kd.R_drewN | apply Kd.R_drew)); exact HO_447000.out)) (by decide) hg)
                have n3_ := Aside0.mk (blk_grown (g := gb421) (o := .cells #[.slice none 0 0, .slice none 0 0, .slice none 0 0, .int .i64 0, .int .i64 0] 31 (0, 0)) (by (with_reducible repeat (first | refine blk_drewN ?_ _ | refine blk_drew ?_ | refine blk_alloc ?_ _)); exact BK421.out) hg (Kd.R_ne HO_447000.out BK421.out (by decide)))
                have n4_ := Aside0.mk (blk_grown (g := gb446) (o := .cells #[u447000, .slice Ao32 t437.length co32, .slice Ao31 t441.length co31, .int .i64 (rd t430 0), .int .i64 (rd t430 1)] 31 (0, 0)) (by (with_reducible repeat (first | refine blk_drewN ?_ _ | refine blk_drew ?_ | refine blk_alloc ?_ _)); exact BK446.out) hg (Kd.R_ne HO_447000.out BK446.out (by decide)))
                have n5_ := Aside0.mk (hb)
                have n6_ := Aside0.mk (ho)
                clear HO_5
                clear HO_447001
                clear HO_447002
                clear BK421
                clear BK446
                clear HB
                clear HO_447000
                have HO_5 := n0_
                have HO_447001 := n1_
                have HO_447002 := n2_
                have BK421 := n3_
                have BK446 := n4_
                have HB := n5_
                have HO451 := n6_
                clear n0_ n1_ n2_ n3_ n4_ n5_ n6_
                clear ho hb hg hat
                obtain ⟨Ao48, co48, eo48⟩ := Kd.R_slice HO451.out
                (first | subst eo48 | (injection eo48 with f1_ f2_ f3_; have f4_ := f1_.symm; have f5_ := f3_.symm; clear f1_ f2_ f3_; subst f4_; subst f5_))
                refine hK.out _ _ ?_
                clear hK K
                refine norm_ (a' := ?_) ?_ ?_
                rotate_left
                ·show Act.put _ (some 63) _ = _
                 simp only [Act.put, qa_, qz_, qs_, i64_w, i32_w]
                 rfl
                refine pure_ (i := 14) (N := some 64) (v := ?_) (a' := ?_) m17_42 rfl rfl (any_of HT_.out (by kernel_rfl)) (fun _ _ _ h => h) (Or.inl ⟨by rfl, ?_⟩) ?_ ?_
                rotate_left
                ·intro w'
                 go_simp
                 with_reducible rfl
                rotate_left
                ·simp only [Act.put, qa_, qz_, qs_, i64_w, i32_w]
                 rfl
                refine last_ (i := 15) (N := none) m17_43 rfl rfl (one_of HT_.out (by kernel_rfl)) (by decide) (fun K hK => ?_)
                have hs49 : w47.cell? ⟨gb446, 0, none⟩ = some (u447000) := (blk_cell BK446.out 0).trans rfl
                have hfs49 := blk_frozen BK446.out 0
                have hns49_0 := NB421_446.out
                have hms49_0 := NB446_421.out
                refine skip_ (w1 := ?_) (by rfl) rfl ?_ ?_
                rotate_left
                ·go_simp
                 rfl
                refine hK.out _ _ ?_
                clear hK K
                refine done_ (done_of HT_.out (by kernel_rfl)) ?_
                try go_wp2
                go_roundg k1
                case measure => have := HK1.out; omega
                case rel => exact ⟨(wrap64 (x8_1 + 2)), (y449), (.slice Ao48 y449.length co48), (by first | rfl | (simp; done) | (simp [*]; done) | (simp [tz_, *]; done)), H', ⟨by have := HK1.out; omega⟩, ⟨by (with_reducible repeat (first | apply Kd.R_alloc | apply Kd.R_drewN | apply Kd.R_drew)); exact Kd.R_mono (Kd.R_far (p := ⟨gb446, 0, none⟩) (Kd.R_types HO_5.out BK446.out (by decide)) (fun _ hk => hk.2) (.slice Ao48 y449.length co48)) (fun _ hk => ⟨hk.1.1, hk.1.2⟩)⟩, ⟨by (with_reducible repeat (first | apply Kd.R_alloc | apply Kd.R_drewN | apply Kd.R_drew)); exact Kd.R_mono (Kd.R_far (p := ⟨gb446, 0, none⟩) (Kd.R_types HO451.out BK446.out (by decide)) (fun _ hk => hk.2) (.slice Ao48 y449.length co48)) (fun _ hk => trivial)⟩, ⟨by (with_reducible repeat (first | apply Kd.R_alloc | apply Kd.R_drewN | apply Kd.R_drew)); exact Kd.R_mono (Kd.R_far (p := ⟨gb446, 0, none⟩) (Kd.R_types HO_447001.out BK446.out (by decide)) (fun _ hk => hk.2) (.slice Ao48 y449.length co48)) (fun _ hk => ⟨hk.1.1, hk.1.2⟩)⟩, ⟨by (with_reducible repeat (first | apply Kd.R_alloc | apply Kd.R_drewN | apply Kd.R_drew)); exact Kd.R_mono (Kd.R_far (p := ⟨gb446, 0, none⟩) (Kd.R_types HO_447002.out BK446.out (by decide)) (fun _ hk => hk.2) (.slice Ao48 y449.length co48)) (fun _ hk => ⟨hk.1.1, hk.1.2⟩)⟩, ⟨by (with_reducible repeat (first | refine blk_drewN ?_ _ | refine blk_drew ?_ | refine blk_alloc ?_ _)); refine blk_far ?_ NB421_446.out _; (with_reducible repeat (first | refine blk_drewN ?_ _ | refine blk_drew ?_ | refine blk_alloc ?_ _)); exact BK421.out⟩, ⟨by (with_reducible repeat (first | refine blk_drewN ?_ _ | refine blk_drew ?_ | refine blk_alloc ?_ _)); refine blk_put (cs := #[u447000, .slice Ao32 t437.length co32, .slice Ao31 t441.length co31, .int .i64 (rd t430 0), .int .i64 (rd t430 1)]) ?_ 0 _ rfl; (with_reducible repeat (first | refine blk_drewN ?_ _ | refine blk_drew ?_ | refine blk_alloc ?_ _)); exact BK446.out⟩, ⟨by repeat (first | (with_reducible first | exact HB.out | apply below_alloc | apply pw_below_drewN | apply below_drew1 | refine below_set ?_ GE421.out | refine below_set ?_ GE446.out) | exact HB.out)⟩⟩
               ·rw [if_neg c44] at H
                exact absurd H (by simp)
              ·rw [if_neg c43] at H
               exact absurd H (by simp)
             ·rw [if_neg c41] at H
              exact absurd H (by simp)
            ·rw [if_neg c40] at H
             exact absurd H (by simp)
           ·rw [if_neg c39] at H
            have c39b0 : decide ((wrap64 (x8_1 + 1)) < (t426.length : Int)) = false := decide_eq_false c39
            clear c39
            replace H := Option.bind_eq_some_iff.mp H
            obtain ⟨t452, A500, H⟩ := H
            replace H : (if t452 = true then ((spec_l08Text.f k1 x447000_1 t437 t441 (rd t430 0) (rd t430 1)).bind fun t453 => (if t453.toList = a0.toList then (some (x447000_1, t437, t441, (rd t430 0), (rd t430 1), true)) else (some (([] : List (S77)), ([] : List Int), ([] : List Int), 0, 0, false)))) else (some (([] : List (S77)), ([] : List Int), ([] : List Int), 0, 0, false))) = some (r1, r2, r3, r4, r5, r6) := H
            have A50 := Aside0.mk A500
            clear A500
            by_cases c51 : t452 = true
            ·subst c51
             have H1 : ((spec_l08Text.f k1 x447000_1 t437 t441 (rd t430 0) (rd t430 1)).bind fun t453 => (if t453.toList = a0.toList then (some (x447000_1, t437, t441, (rd t430 0), (rd t430 1), true)) else (some (([] : List (S77)), ([] : List Int), ([] : List Int), 0, 0, false)))) = some (r1, r2, r3, r4, r5, r6) := by rw [if_pos rfl] at H; exact H
             clear H
             have H := H1
             clear H1
             replace H := Option.bind_eq_some_iff.mp H
             obtain ⟨t453, A520, H⟩ := H
             replace H : (if t453.toList = a0.toList then (some (x447000_1, t437, t441, (rd t430 0), (rd t430 1), true)) else (some (([] : List (S77)), ([] : List Int), ([] : List Int), 0, 0, false))) = some (r1, r2, r3, r4, r5, r6) := H
             have A52 := Aside0.mk A520
             clear A520
             by_cases c53 : t453.toList = a0.toList
             ·rw [if_pos c53] at H
              have c53b0 : (t453.toList == a0.toList) = true := beq_iff_eq.mpr c53
              have c53b1 : (t453.toList != a0.toList) = false := bne_eq_false_iff_eq.mpr c53
              clear c53
              simp only [Option.some.injEq, Prod.mk.injEq] at H
              obtain ⟨rfl, rfl, rfl, rfl, rfl, rfl⟩ := H
              obtain ⟨Ao54, co54, eo54⟩ := Kd.R_slice HO_5.out
              subst eo54
              obtain ⟨Ao55, co55, eo55⟩ := Kd.R_slice HO_447000.out
              subst eo55
              go_wp2_with (first | ((with_reducible refine gate_callee (f := 27) rfl ?_); refine goesL_ (some 65) rfl rfl Tryd.func27 (by kernel_rfl) rfl #[.pointer (some ⟨gb446, 0, none⟩)] rfl (by (try simp only [List.map_toArray, List.map_cons, List.map_nil]); first | done | rfl) ?_; (with_reducible refine (spec_l08Is.calls k1 gb446 Ao55 co55 x447000_1 Ao32 co32 t437 Ao31 co31 t441 (rd t430 0) (rd t430 1) true _ ?side1 ?side2 ?side3 ?side4 ?side5 ?side6 ?side7 A50.out).mono ?_); (case side1 => repeat (first | exact (Kd.R_reads' HO_447000.out).2.2 | (with_reducible first | refine Kd.C_alloc ?_ _ | refine Kd.C_drewN ?_ _ | refine Kd.C_drew ?_))); (case side2 => exact (Kd.R_reads' HO_447000.out).2.1); (case side3 => repeat (first | exact (Kd.R_reads' HO_447001.out).2.2 | (with_reducible first | refine Kd.C_alloc ?_ _ | refine Kd.C_drewN ?_ _ | refine Kd.C_drew ?_))); (case side4 => exact (Kd.R_reads' HO_447001.out).2.1); (case side5 => repeat (first | exact (Kd.R_reads' HO_447002.out).2.2 | (with_reducible first | refine Kd.C_alloc ?_ _ | refine Kd.C_drewN ?_ _ | refine Kd.C_drew ?_))); (case side6 => exact (Kd.R_reads' HO_447002.out).2.1); (case side7 => exact (by (with_reducible repeat (first | refine blk_drewN ?_ _ | refine blk_drew ?_ | refine blk_alloc ?_ _)); exact BK446.out)); rintro e w56 ⟨rfl, hb⟩; (try (have db_ : ∀ {w w' : World}, Drawn0 w w' → Below w.heap.size w w' := (by intro w w' h_; obtain ⟨n_, rfl⟩ := h_; exact pw_below_drewN (Below.refl _ _) _); replace hb := db_ hb; clear db_)); refine ⟨_, rfl, ?_⟩; have n0_ := Aside0.mk (Kd.R_below (by (with_reducible repeat (first | apply Kd.R_alloc | apply Kd.R_drewN | apply Kd.R_drew)); exact HO_5.out) hb); have n1_ := Aside0.mk (Kd.R_below (by (with_reducible repeat (first | apply Kd.R_alloc | apply Kd.R_drewN | apply Kd.R_drew)); exact HO_447000.out) hb); have n2_ := Aside0.mk (Kd.R_below (by (with_reducible repeat (first | apply Kd.R_alloc | apply Kd.R_drewN | apply Kd.R_drew)); exact HO_447001.out) hb); have n3_ := Aside0.mk (Kd.R_below (by (with_reducible repeat (first | apply Kd.R_alloc | apply Kd.R_drewN | apply Kd.R_drew)); exact HO_447002.out) hb); have n4_ := Aside0.mk (blk_below (g := gb421) (o := .cells #[.slice none 0 0, .slice none 0 0, .slice none 0 0, .int .i64 0, .int .i64 0] 31 (0, 0)) (by (with_reducible repeat (first | refine blk_drewN ?_ _ | refine blk_drew ?_ | refine blk_alloc ?_ _)); exact BK421.out) hb); have n5_ := Aside0.mk (blk_below (g := gb446) (o := .cells #[.slice Ao55 x447000_1.length co55, .slice Ao32 t437.length co32, .slice Ao31 t441.length co31, .int .i64 (rd t430 0), .int .i64 (rd t430 1)] 31 (0, 0)) (by (with_reducible repeat (first | refine blk_drewN ?_ _ | refine blk_drew ?_ | refine blk_alloc ?_ _)); exact BK446.out) hb); have n6_ := Aside0.mk (below_step (by repeat (first | (with_reducible first | exact HB.out | apply below_alloc | apply pw_below_drewN | apply below_drew1 | refine below_set ?_ GE421.out | refine below_set ?_ GE446.out) | exact HB.out)) hb); clear HO_5; clear HO_447000; clear HO_447001; clear HO_447002; clear BK421; clear BK446; clear HB; have HO_5 := n0_; have HO_447000 := n1_; have HO_447001 := n2_; have HO_447002 := n3_; have BK421 := n4_; have BK446 := n5_; have HB := n6_; clear n0_ n1_ n2_ n3_ n4_ n5_ n6_; (try clear hb); (try clear hb2); (try clear hk); (try clear hi)) | (go_at_call 28; (with_reducible refine (spec_l08Text.calls k1 gb446 Ao55 co55 x447000_1 Ao32 co32 t437 Ao31 co31 t441 (rd t430 0) (rd t430 1) t453 _ ?side1 ?side2 ?side3 ?side4 ?side5 ?side6 ?side7 A52.out).mono ?_); (case side1 => repeat (first | exact (Kd.R_reads' HO_447000.out).2.2 | (with_reducible first | refine Kd.C_alloc ?_ _ | refine Kd.C_drewN ?_ _ | refine Kd.C_drew ?_))); (case side2 => exact (Kd.R_reads' HO_447000.out).2.1); (case side3 => repeat (first | exact (Kd.R_reads' HO_447001.out).2.2 | (with_reducible first | refine Kd.C_alloc ?_ _ | refine Kd.C_drewN ?_ _ | refine Kd.C_drew ?_))); (case side4 => exact (Kd.R_reads' HO_447001.out).2.1); (case side5 => repeat (first | exact (Kd.R_reads' HO_447002.out).2.2 | (with_reducible first | refine Kd.C_alloc ?_ _ | refine Kd.C_drewN ?_ _ | refine Kd.C_drew ?_))); (case side6 => exact (Kd.R_reads' HO_447002.out).2.1); (case side7 => exact (by (with_reducible repeat (first | refine blk_drewN ?_ _ | refine blk_drew ?_ | refine blk_alloc ?_ _)); exact BK446.out)); rintro e w57 ⟨rfl, hb⟩; have n0_ := Aside0.mk (Kd.R_below (by (with_reducible repeat (first | apply Kd.R_alloc | apply Kd.R_drewN | apply Kd.R_drew)); exact HO_5.out) hb); have n1_ := Aside0.mk (Kd.R_below (by (with_reducible repeat (first | apply Kd.R_alloc | apply Kd.R_drewN | apply Kd.R_drew)); exact HO_447000.out) hb); have n2_ := Aside0.mk (Kd.R_below (by (with_reducible repeat (first | apply Kd.R_alloc | apply Kd.R_drewN | apply Kd.R_drew)); exact HO_447001.out) hb); have n3_ := Aside0.mk (Kd.R_below (by (with_reducible repeat (first | apply Kd.R_alloc | apply Kd.R_drewN | apply Kd.R_drew)); exact HO_447002.out) hb); have n4_ := Aside0.mk (blk_below (g := gb421) (o := .cells #[.slice none 0 0, .slice none 0 0, .slice none 0 0, .int .i64 0, .int .i64 0] 31 (0, 0)) (by (with_reducible repeat (first | refine blk_drewN ?_ _ | refine blk_drew ?_ | refine blk_alloc ?_ _)); exact BK421.out) hb); have n5_ := Aside0.mk (blk_below (g := gb446) (o := .cells #[.slice Ao55 x447000_1.length co55, .slice Ao32 t437.length co32, .slice Ao31 t441.length co31, .int .i64 (rd t430 0), .int .i64 (rd t430 1)] 31 (0, 0)) (by (with_reducible repeat (first | refine blk_drewN ?_ _ | refine blk_drew ?_ | refine blk_alloc ?_ _)); exact BK446.out) hb); have n6_ := Aside0.mk (below_step (by repeat (first | (with_reducible first | exact HB.out | apply below_alloc | apply pw_below_drewN | apply below_drew1 | refine below_set ?_ GE421.out | refine below_set ?_ GE446.out) | exact HB.out)) hb); clear HO_5; clear HO_447000; clear HO_447001; clear HO_447002; clear BK421; clear BK446; clear HB; have HO_5 := n0_; have HO_447000 := n1_; have HO_447001 := n2_; have HO_447002 := n3_; have BK421 := n4_; have BK446 := n5_; have HB := n6_; clear n0_ n1_ n2_ n3_ n4_ n5_ n6_; (try clear hb); (try clear hb2); (try clear hk); (try clear hi); have hnb58 := NB446_421.out; have hnc58 := NB421_446.out; have hcz59_0 : w57.cell? ⟨gb446, 0, none⟩ = some (.slice Ao55 x447000_1.length co55) := (blk_cell BK446.out 0).trans rfl; have hcz59_1 : w57.cell? ⟨gb446, 1, none⟩ = some (.slice Ao32 t437.length co32) := (blk_cell BK446.out 1).trans rfl; have hcz59_2 : w57.cell? ⟨gb446, 2, none⟩ = some (.slice Ao31 t441.length co31) := (blk_cell BK446.out 2).trans rfl; have hcz59_3 : w57.cell? ⟨gb446, 3, none⟩ = some (.int .i64 (rd t430 0)) := (blk_cell BK446.out 3).trans rfl; have hcz59_4 : w57.cell? ⟨gb446, 4, none⟩ = some (.int .i64 (rd t430 1)) := (blk_cell BK446.out 4).trans rfl; have hfz59_0 := blk_frozen BK446.out 0; have hfz59_1 := blk_frozen BK446.out 1; have hfz59_2 := blk_frozen BK446.out 2; have hfz59_3 := blk_frozen BK446.out 3; have hfz59_4 := blk_frozen BK446.out 4; have hcz60_0 : w57.cell? ⟨gb421, 0, none⟩ = some (.slice none 0 0) := (blk_cell BK421.out 0).trans rfl; have hcz60_1 : w57.cell? ⟨gb421, 1, none⟩ = some (.slice none 0 0) := (blk_cell BK421.out 1).trans rfl; have hcz60_2 : w57.cell? ⟨gb421, 2, none⟩ = some (.slice none 0 0) := (blk_cell BK421.out 2).trans rfl; have hcz60_3 : w57.cell? ⟨gb421, 3, none⟩ = some (.int .i64 0) := (blk_cell BK421.out 3).trans rfl; have hcz60_4 : w57.cell? ⟨gb421, 4, none⟩ = some (.int .i64 0) := (blk_cell BK421.out 4).trans rfl; have hfz60_0 := blk_frozen BK421.out 0; have hfz60_1 := blk_frozen BK421.out 1; have hfz60_2 := blk_frozen BK421.out 2; have hfz60_3 := blk_frozen BK421.out 3; have hfz60_4 := blk_frozen BK421.out 4))
              refine bodyPost_ret (results_ct rfl _ _ gb421 31 #[.slice Ao55 x447000_1.length co55, .slice Ao32 t437.length co32, .slice Ao31 t441.length co31, .int .i64 (rd t430 0), .int .i64 (rd t430 1)] (0, 0) _ rfl (by (with_reducible repeat (first | refine blk_drewN ?_ _ | refine blk_drew ?_ | refine blk_alloc ?_ _)); refine blk_put (cs := #[.slice Ao55 x447000_1.length co55, .slice Ao32 t437.length co32, .slice Ao31 t441.length co31, .int .i64 (rd t430 0), .int .i64 0]) ?_ 4 _ rfl; (with_reducible repeat (first | refine blk_drewN ?_ _ | refine blk_drew ?_ | refine blk_alloc ?_ _)); refine blk_put (cs := #[.slice Ao55 x447000_1.length co55, .slice Ao32 t437.length co32, .slice Ao31 t441.length co31, .int .i64 0, .int .i64 0]) ?_ 3 _ rfl; (with_reducible repeat (first | refine blk_drewN ?_ _ | refine blk_drew ?_ | refine blk_alloc ?_ _)); refine blk_put (cs := #[.slice Ao55 x447000_1.length co55, .slice Ao32 t437.length co32, .slice none 0 0, .int .i64 0, .int .i64 0]) ?_ 2 _ rfl; (with_reducible repeat (first | refine blk_drewN ?_ _ | refine blk_drew ?_ | refine blk_alloc ?_ _)); refine blk_put (cs := #[.slice Ao55 x447000_1.length co55, .slice none 0 0, .slice none 0 0, .int .i64 0, .int .i64 0]) ?_ 1 _ rfl; (with_reducible repeat (first | refine blk_drewN ?_ _ | refine blk_drew ?_ | refine blk_alloc ?_ _)); refine blk_put (cs := #[.slice none 0 0, .slice none 0 0, .slice none 0 0, .int .i64 0, .int .i64 0]) ?_ 0 _ rfl; (with_reducible repeat (first | refine blk_drewN ?_ _ | refine blk_drew ?_ | refine blk_alloc ?_ _)); exact BK421.out) Tryd.underlying31 rfl (by kernel_rfl)) rfl ?_
              exact ⟨_, _, _, by first | rfl | (simp [errW_none, errW_some] <;> rfl) | (simp [*, errW_none, errW_some] <;> rfl) | (simp [tz_, *]; done), by (with_reducible repeat (first | apply Kd.R_alloc | apply Kd.R_drewN | apply Kd.R_drew)); exact Kd.R_mono (Kd.R_far (p := ⟨gb421, 4, none⟩) (Kd.R_far (p := ⟨gb421, 3, none⟩) (Kd.R_far (p := ⟨gb421, 2, none⟩) (Kd.R_far (p := ⟨gb421, 1, none⟩) (Kd.R_far (p := ⟨gb421, 0, none⟩) (Kd.R_types HO_447000.out BK421.out (by decide)) (fun _ hk => hk.2) (.slice Ao55 x447000_1.length co55)) (fun _ hk => hk.2) (.slice Ao32 t437.length co32)) (fun _ hk => hk.2) (.slice Ao31 t441.length co31)) (fun _ hk => hk.2) (.int .i64 (rd t430 0))) (fun _ hk => hk.2) (.int .i64 (rd t430 1))) (fun _ hk => trivial), by (with_reducible repeat (first | apply Kd.R_alloc | apply Kd.R_drewN | apply Kd.R_drew)); exact Kd.R_mono (Kd.R_far (p := ⟨gb421, 4, none⟩) (Kd.R_far (p := ⟨gb421, 3, none⟩) (Kd.R_far (p := ⟨gb421, 2, none⟩) (Kd.R_far (p := ⟨gb421, 1, none⟩) (Kd.R_far (p := ⟨gb421, 0, none⟩) (Kd.R_types HO_447001.out BK421.out (by decide)) (fun _ hk => hk.2) (.slice Ao55 x447000_1.length co55)) (fun _ hk => hk.2) (.slice Ao32 t437.length co32)) (fun _ hk => hk.2) (.slice Ao31 t441.length co31)) (fun _ hk => hk.2) (.int .i64 (rd t430 0))) (fun _ hk => hk.2) (.int .i64 (rd t430 1))) (fun _ hk => hk.1.2), by (with_reducible repeat (first | apply Kd.R_alloc | apply Kd.R_drewN | apply Kd.R_drew)); exact Kd.R_mono (Kd.R_far (p := ⟨gb421, 4, none⟩) (Kd.R_far (p := ⟨gb421, 3, none⟩) (Kd.R_far (p := ⟨gb421, 2, none⟩) (Kd.R_far (p := ⟨gb421, 1, none⟩) (Kd.R_far (p := ⟨gb421, 0, none⟩) (Kd.R_types HO_447002.out BK421.out (by decide)) (fun _ hk => hk.2) (.slice Ao55 x447000_1.length co55)) (fun _ hk => hk.2) (.slice Ao32 t437.length co32)) (fun _ hk => hk.2) (.slice Ao31 t441.length co31)) (fun _ hk => hk.2) (.int .i64 (rd t430 0))) (fun _ hk => hk.2) (.int .i64 (rd t430 1))) (fun _ hk => hk.1.2), by repeat (first | (with_reducible first | exact HB.out | apply below_alloc | apply pw_below_drewN | apply below_drew1 | refine below_set ?_ GE421.out | refine below_set ?_ GE446.out) | exact HB.out)⟩
             ·rw [if_neg c53] at H
              have c53b0 : (t453.toList == a0.toList) = false := beq_eq_false_iff_ne.mpr c53
              have c53b1 : (t453.toList != a0.toList) = true := bne_iff_ne.mpr c53
              simp only [Option.some.injEq, Prod.mk.injEq] at H
              obtain ⟨rfl, rfl, rfl, rfl, rfl, rfl⟩ := H
              obtain ⟨Ao61, co61, eo61⟩ := Kd.R_slice HO_5.out
              subst eo61
              obtain ⟨Ao62, co62, eo62⟩ := Kd.R_slice HO_447000.out
              subst eo62
              go_wp2_with (first | ((with_reducible refine gate_callee (f := 27) rfl ?_); refine goesL_ (some 65) rfl rfl Tryd.func27 (by kernel_rfl) rfl #[.pointer (some ⟨gb446, 0, none⟩)] rfl (by (try simp only [List.map_toArray, List.map_cons, List.map_nil]); first | done | rfl) ?_; (with_reducible refine (spec_l08Is.calls k1 gb446 Ao62 co62 x447000_1 Ao32 co32 t437 Ao31 co31 t441 (rd t430 0) (rd t430 1) true _ ?side1 ?side2 ?side3 ?side4 ?side5 ?side6 ?side7 A50.out).mono ?_); (case side1 => repeat (first | exact (Kd.R_reads' HO_447000.out).2.2 | (with_reducible first | refine Kd.C_alloc ?_ _ | refine Kd.C_drewN ?_ _ | refine Kd.C_drew ?_))); (case side2 => exact (Kd.R_reads' HO_447000.out).2.1); (case side3 => repeat (first | exact (Kd.R_reads' HO_447001.out).2.2 | (with_reducible first | refine Kd.C_alloc ?_ _ | refine Kd.C_drewN ?_ _ | refine Kd.C_drew ?_))); (case side4 => exact (Kd.R_reads' HO_447001.out).2.1); (case side5 => repeat (first | exact (Kd.R_reads' HO_447002.out).2.2 | (with_reducible first | refine Kd.C_alloc ?_ _ | refine Kd.C_drewN ?_ _ | refine Kd.C_drew ?_))); (case side6 => exact (Kd.R_reads' HO_447002.out).2.1); (case side7 => exact (by (with_reducible repeat (first | refine blk_drewN ?_ _ | refine blk_drew ?_ | refine blk_alloc ?_ _)); exact BK446.out)); rintro e w63 ⟨rfl, hb⟩; (try (have db_ : ∀ {w w' : World}, Drawn0 w w' → Below w.heap.size w w' := (by intro w w' h_; obtain ⟨n_, rfl⟩ := h_; exact pw_below_drewN (Below.refl _ _) _); replace hb := db_ hb; clear db_)); refine ⟨_, rfl, ?_⟩; have n0_ := Aside0.mk (Kd.R_below (by (with_reducible repeat (first | apply Kd.R_alloc | apply Kd.R_drewN | apply Kd.R_drew)); exact HO_5.out) hb); have n1_ := Aside0.mk (Kd.R_below (by (with_reducible repeat (first | apply Kd.R_alloc | apply Kd.R_drewN | apply Kd.R_drew)); exact HO_447000.out) hb); have n2_ := Aside0.mk (Kd.R_below (by (with_reducible repeat (first | apply Kd.R_alloc | apply Kd.R_drewN | apply Kd.R_drew)); exact HO_447001.out) hb); have n3_ := Aside0.mk (Kd.R_below (by (with_reducible repeat (first | apply Kd.R_alloc | apply Kd.R_drewN | apply Kd.R_drew)); exact HO_447002.out) hb); have n4_ := Aside0.mk (blk_below (g := gb421) (o := .cells #[.slice none 0 0, .slice none 0 0, .slice none 0 0, .int .i64 0, .int .i64 0] 31 (0, 0)) (by (with_reducible repeat (first | refine blk_drewN ?_ _ | refine blk_drew ?_ | refine blk_alloc ?_ _)); exact BK421.out) hb); have n5_ := Aside0.mk (blk_below (g := gb446) (o := .cells #[.slice Ao62 x447000_1.length co62, .slice Ao32 t437.length co32, .slice Ao31 t441.length co31, .int .i64 (rd t430 0), .int .i64 (rd t430 1)] 31 (0, 0)) (by (with_reducible repeat (first | refine blk_drewN ?_ _ | refine blk_drew ?_ | refine blk_alloc ?_ _)); exact BK446.out) hb); have n6_ := Aside0.mk (below_step (by repeat (first | (with_reducible first | exact HB.out | apply below_alloc | apply pw_below_drewN | apply below_drew1 | refine below_set ?_ GE421.out | refine below_set ?_ GE446.out) | exact HB.out)) hb); clear HO_5; clear HO_447000; clear HO_447001; clear HO_447002; clear BK421; clear BK446; clear HB; have HO_5 := n0_; have HO_447000 := n1_; have HO_447001 := n2_; have HO_447002 := n3_; have BK421 := n4_; have BK446 := n5_; have HB := n6_; clear n0_ n1_ n2_ n3_ n4_ n5_ n6_; (try clear hb); (try clear hb2); (try clear hk); (try clear hi)) | (go_at_call 28; (with_reducible refine (spec_l08Text.calls k1 gb446 Ao62 co62 x447000_1 Ao32 co32 t437 Ao31 co31 t441 (rd t430 0) (rd t430 1) t453 _ ?side1 ?side2 ?side3 ?side4 ?side5 ?side6 ?side7 A52.out).mono ?_); (case side1 => repeat (first | exact (Kd.R_reads' HO_447000.out).2.2 | (with_reducible first | refine Kd.C_alloc ?_ _ | refine Kd.C_drewN ?_ _ | refine Kd.C_drew ?_))); (case side2 => exact (Kd.R_reads' HO_447000.out).2.1); (case side3 => repeat (first | exact (Kd.R_reads' HO_447001.out).2.2 | (with_reducible first | refine Kd.C_alloc ?_ _ | refine Kd.C_drewN ?_ _ | refine Kd.C_drew ?_))); (case side4 => exact (Kd.R_reads' HO_447001.out).2.1); (case side5 => repeat (first | exact (Kd.R_reads' HO_447002.out).2.2 | (with_reducible first | refine Kd.C_alloc ?_ _ | refine Kd.C_drewN ?_ _ | refine Kd.C_drew ?_))); (case side6 => exact (Kd.R_reads' HO_447002.out).2.1); (case side7 => exact (by (with_reducible repeat (first | refine blk_drewN ?_ _ | refine blk_drew ?_ | refine blk_alloc ?_ _)); exact BK446.out)); rintro e w64 ⟨rfl, hb⟩; have n0_ := Aside0.mk (Kd.R_below (by (with_reducible repeat (first | apply Kd.R_alloc | apply Kd.R_drewN | apply Kd.R_drew)); exact HO_5.out) hb); have n1_ := Aside0.mk (Kd.R_below (by (with_reducible repeat (first | apply Kd.R_alloc | apply Kd.R_drewN | apply Kd.R_drew)); exact HO_447000.out) hb); have n2_ := Aside0.mk (Kd.R_below (by (with_reducible repeat (first | apply Kd.R_alloc | apply Kd.R_drewN | apply Kd.R_drew)); exact HO_447001.out) hb); have n3_ := Aside0.mk (Kd.R_below (by (with_reducible repeat (first | apply Kd.R_alloc | apply Kd.R_drewN | apply Kd.R_drew)); exact HO_447002.out) hb); have n4_ := Aside0.mk (blk_below (g := gb421) (o := .cells #[.slice none 0 0, .slice none 0 0, .slice none 0 0, .int .i64 0, .int .i64 0] 31 (0, 0)) (by (with_reducible repeat (first | refine blk_drewN ?_ _ | refine blk_drew ?_ | refine blk_alloc ?_ _)); exact BK421.out) hb); have n5_ := Aside0.mk (blk_below (g := gb446) (o := .cells #[.slice Ao62 x447000_1.length co62, .slice Ao32 t437.length co32, .slice Ao31 t441.length co31, .int .i64 (rd t430 0), .int .i64 (rd t430 1)] 31 (0, 0)) (by (with_reducible repeat (first | refine blk_drewN ?_ _ | refine blk_drew ?_ | refine blk_alloc ?_ _)); exact BK446.out) hb); have n6_ := Aside0.mk (below_step (by repeat (first | (with_reducible first | exact HB.out | apply below_alloc | apply pw_below_drewN | apply below_drew1 | refine below_set ?_ GE421.out | refine below_set ?_ GE446.out) | exact HB.out)) hb); clear HO_5; clear HO_447000; clear HO_447001; clear HO_447002; clear BK421; clear BK446; clear HB; have HO_5 := n0_; have HO_447000 := n1_; have HO_447001 := n2_; have HO_447002 := n3_; have BK421 := n4_; have BK446 := n5_; have HB := n6_; clear n0_ n1_ n2_ n3_ n4_ n5_ n6_; (try clear hb); (try clear hb2); (try clear hk); (try clear hi); have hnb65 := NB421_446.out; have hnc65 := NB446_421.out; have hcz66_0 : w64.cell? ⟨gb421, 0, none⟩ = some (.slice none 0 0) := (blk_cell BK421.out 0).trans rfl; have hcz66_1 : w64.cell? ⟨gb421, 1, none⟩ = some (.slice none 0 0) := (blk_cell BK421.out 1).trans rfl; have hcz66_2 : w64.cell? ⟨gb421, 2, none⟩ = some (.slice none 0 0) := (blk_cell BK421.out 2).trans rfl; have hcz66_3 : w64.cell? ⟨gb421, 3, none⟩ = some (.int .i64 0) := (blk_cell BK421.out 3).trans rfl; have hcz66_4 : w64.cell? ⟨gb421, 4, none⟩ = some (.int .i64 0) := (blk_cell BK421.out 4).trans rfl; have hfz66_0 := blk_frozen BK421.out 0; have hfz66_1 := blk_frozen BK421.out 1; have hfz66_2 := blk_frozen BK421.out 2; have hfz66_3 := blk_frozen BK421.out 3; have hfz66_4 := blk_frozen BK421.out 4))
              refine bodyPost_ret (results_ct rfl _ _ gb421 31 #[.slice none 0 0, .slice none 0 0, .slice none 0 0, .int .i64 0, .int .i64 0] (0, 0) _ rfl (by (with_reducible repeat (first | refine blk_drewN ?_ _ | refine blk_drew ?_ | refine blk_alloc ?_ _)); refine blk_put (cs := #[.slice none 0 0, .slice none 0 0, .slice none 0 0, .int .i64 0, .int .i64 0]) ?_ 4 _ rfl; (with_reducible repeat (first | refine blk_drewN ?_ _ | refine blk_drew ?_ | refine blk_alloc ?_ _)); refine blk_put (cs := #[.slice none 0 0, .slice none 0 0, .slice none 0 0, .int .i64 0, .int .i64 0]) ?_ 3 _ rfl; (with_reducible repeat (first | refine blk_drewN ?_ _ | refine blk_drew ?_ | refine blk_alloc ?_ _)); refine blk_put (cs := #[.slice none 0 0, .slice none 0 0, .slice none 0 0, .int .i64 0, .int .i64 0]) ?_ 2 _ rfl; (with_reducible repeat (first | refine blk_drewN ?_ _ | refine blk_drew ?_ | refine blk_alloc ?_ _)); refine blk_put (cs := #[.slice none 0 0, .slice none 0 0, .slice none 0 0, .int .i64 0, .int .i64 0]) ?_ 1 _ rfl; (with_reducible repeat (first | refine blk_drewN ?_ _ | refine blk_drew ?_ | refine blk_alloc ?_ _)); refine blk_put (cs := #[.slice none 0 0, .slice none 0 0, .slice none 0 0, .int .i64 0, .int .i64 0]) ?_ 0 _ rfl; (with_reducible repeat (first | refine blk_drewN ?_ _ | refine blk_drew ?_ | refine blk_alloc ?_ _)); exact BK421.out) Tryd.underlying31 rfl (by kernel_rfl)) rfl ?_
              exact ⟨_, _, _, by first | rfl | (simp [errW_none, errW_some] <;> rfl) | (simp [*, errW_none, errW_some] <;> rfl) | (simp [tz_, *]; done), by first | exact Kd.R_nil _ _ _ _ _ | exact Kd.N_nil _ _ _ _ _ | exact Kd.V_nil _ _ _ _ _ | exact Kd.Q_nil _ _ _ _ _ | exact Kd.S_nil _ _ _ _ _, by first | exact Kd.R_nil _ _ _ _ _ | exact Kd.N_nil _ _ _ _ _ | exact Kd.V_nil _ _ _ _ _ | exact Kd.Q_nil _ _ _ _ _ | exact Kd.S_nil _ _ _ _ _, by first | exact Kd.R_nil _ _ _ _ _ | exact Kd.N_nil _ _ _ _ _ | exact Kd.V_nil _ _ _ _ _ | exact Kd.Q_nil _ _ _ _ _ | exact Kd.S_nil _ _ _ _ _, by repeat (first | (with_reducible first | exact HB.out | apply below_alloc | apply pw_below_drewN | apply below_drew1 | refine below_set ?_ GE421.out | refine below_set ?_ GE446.out) | exact HB.out)⟩
            ·replace c51 := Bool.eq_false_iff.mpr c51
             subst c51
             have H1 : (some (([] : List (S77)), ([] : List Int), ([] : List Int), 0, 0, false)) = some (r1, r2, r3, r4, r5, r6) := by rw [if_neg (show ¬ (false = true) by decide)] at H; exact H
             clear H
             have H := H1
             clear H1
             simp only [Option.some.injEq, Prod.mk.injEq] at H
             obtain ⟨rfl, rfl, rfl, rfl, rfl, rfl⟩ := H
             obtain ⟨Ao67, co67, eo67⟩ := Kd.R_slice HO_5.out
             subst eo67
             obtain ⟨Ao68, co68, eo68⟩ := Kd.R_slice HO_447000.out
             subst eo68
             go_wp2_with (first | ((with_reducible refine gate_callee (f := 27) rfl ?_); refine goesL_ (some 65) rfl rfl Tryd.func27 (by kernel_rfl) rfl #[.pointer (some ⟨gb446, 0, none⟩)] rfl (by (try simp only [List.map_toArray, List.map_cons, List.map_nil]); first | done | rfl) ?_; (with_reducible refine (spec_l08Is.calls k1 gb446 Ao68 co68 x447000_1 Ao32 co32 t437 Ao31 co31 t441 (rd t430 0) (rd t430 1) false _ ?side1 ?side2 ?side3 ?side4 ?side5 ?side6 ?side7 A50.out).mono ?_); (case side1 => repeat (first | exact (Kd.R_reads' HO_447000.out).2.2 | (with_reducible first | refine Kd.C_alloc ?_ _ | refine Kd.C_drewN ?_ _ | refine Kd.C_drew ?_))); (case side2 => exact (Kd.R_reads' HO_447000.out).2.1); (case side3 => repeat (first | exact (Kd.R_reads' HO_447001.out).2.2 | (with_reducible first | refine Kd.C_alloc ?_ _ | refine Kd.C_drewN ?_ _ | refine Kd.C_drew ?_))); (case side4 => exact (Kd.R_reads' HO_447001.out).2.1); (case side5 => repeat (first | exact (Kd.R_reads' HO_447002.out).2.2 | (with_reducible first | refine Kd.C_alloc ?_ _ | refine Kd.C_drewN ?_ _ | refine Kd.C_drew ?_))); (case side6 => exact (Kd.R_reads' HO_447002.out).2.1); (case side7 => exact (by (with_reducible repeat (first | refine blk_drewN ?_ _ | refine blk_drew ?_ | refine blk_alloc ?_ _)); exact BK446.out)); rintro e w69 ⟨rfl, hb⟩; (try (have db_ : ∀ {w w' : World}, Drawn0 w w' → Below w.heap.size w w' := (by intro w w' h_; obtain ⟨n_, rfl⟩ := h_; exact pw_below_drewN (Below.refl _ _) _); replace hb := db_ hb; clear db_)); refine ⟨_, rfl, ?_⟩; have n0_ := Aside0.mk (Kd.R_below (by (with_reducible repeat (first | apply Kd.R_alloc | apply Kd.R_drewN | apply Kd.R_drew)); exact HO_5.out) hb); have n1_ := Aside0.mk (Kd.R_below (by (with_reducible repeat (first | apply Kd.R_alloc | apply Kd.R_drewN | apply Kd.R_drew)); exact HO_447000.out) hb); have n2_ := Aside0.mk (Kd.R_below (by (with_reducible repeat (first | apply Kd.R_alloc | apply Kd.R_drewN | apply Kd.R_drew)); exact HO_447001.out) hb); have n3_ := Aside0.mk (Kd.R_below (by (with_reducible repeat (first | apply Kd.R_alloc | apply Kd.R_drewN | apply Kd.R_drew)); exact HO_447002.out) hb); have n4_ := Aside0.mk (blk_below (g := gb421) (o := .cells #[.slice none 0 0, .slice none 0 0, .slice none 0 0, .int .i64 0, .int .i64 0] 31 (0, 0)) (by (with_reducible repeat (first | refine blk_drewN ?_ _ | refine blk_drew ?_ | refine blk_alloc ?_ _)); exact BK421.out) hb); have n5_ := Aside0.mk (blk_below (g := gb446) (o := .cells #[.slice Ao68 x447000_1.length co68, .slice Ao32 t437.length co32, .slice Ao31 t441.length co31, .int .i64 (rd t430 0), .int .i64 (rd t430 1)] 31 (0, 0)) (by (with_reducible repeat (first | refine blk_drewN ?_ _ | refine blk_drew ?_ | refine blk_alloc ?_ _)); exact BK446.out) hb); have n6_ := Aside0.mk (below_step (by repeat (first | (with_reducible first | exact HB.out | apply below_alloc | apply pw_below_drewN | apply below_drew1 | refine below_set ?_ GE421.out | refine below_set ?_ GE446.out) | exact HB.out)) hb); clear HO_5; clear HO_447000; clear HO_447001; clear HO_447002; clear BK421; clear BK446; clear HB; have HO_5 := n0_; have HO_447000 := n1_; have HO_447001 := n2_; have HO_447002 := n3_; have BK421 := n4_; have BK446 := n5_; have HB := n6_; clear n0_ n1_ n2_ n3_ n4_ n5_ n6_; (try clear hb); (try clear hb2); (try clear hk); (try clear hi); have hnb70 := NB421_446.out; have hnc70 := NB446_421.out; have hcz71_0 : w69.cell? ⟨gb421, 0, none⟩ = some (.slice none 0 0) := (blk_cell BK421.out 0).trans rfl; have hcz71_1 : w69.cell? ⟨gb421, 1, none⟩ = some (.slice none 0 0) := (blk_cell BK421.out 1).trans rfl; have hcz71_2 : w69.cell? ⟨gb421, 2, none⟩ = some (.slice none 0 0) := (blk_cell BK421.out 2).trans rfl; have hcz71_3 : w69.cell? ⟨gb421, 3, none⟩ = some (.int .i64 0) := (blk_cell BK421.out 3).trans rfl; have hcz71_4 : w69.cell? ⟨gb421, 4, none⟩ = some (.int .i64 0) := (blk_cell BK421.out 4).trans rfl; have hfz71_0 := blk_frozen BK421.out 0; have hfz71_1 := blk_frozen BK421.out 1; have hfz71_2 := blk_frozen BK421.out 2; have hfz71_3 := blk_frozen BK421.out 3; have hfz71_4 := blk_frozen BK421.out 4))
             refine bodyPost_ret (results_ct rfl _ _ gb421 31 #[.slice none 0 0, .slice none 0 0, .slice none 0 0, .int .i64 0, .int .i64 0] (0, 0) _ rfl (by (with_reducible repeat (first | refine blk_drewN ?_ _ | refine blk_drew ?_ | refine blk_alloc ?_ _)); refine blk_put (cs := #[.slice none 0 0, .slice none 0 0, .slice none 0 0, .int .i64 0, .int .i64 0]) ?_ 4 _ rfl; (with_reducible repeat (first | refine blk_drewN ?_ _ | refine blk_drew ?_ | refine blk_alloc ?_ _)); refine blk_put (cs := #[.slice none 0 0, .slice none 0 0, .slice none 0 0, .int .i64 0, .int .i64 0]) ?_ 3 _ rfl; (with_reducible repeat (first | refine blk_drewN ?_ _ | refine blk_drew ?_ | refine blk_alloc ?_ _)); refine blk_put (cs := #[.slice none 0 0, .slice none 0 0, .slice none 0 0, .int .i64 0, .int .i64 0]) ?_ 2 _ rfl; (with_reducible repeat (first | refine blk_drewN ?_ _ | refine blk_drew ?_ | refine blk_alloc ?_ _)); refine blk_put (cs := #[.slice none 0 0, .slice none 0 0, .slice none 0 0, .int .i64 0, .int .i64 0]) ?_ 1 _ rfl; (with_reducible repeat (first | refine blk_drewN ?_ _ | refine blk_drew ?_ | refine blk_alloc ?_ _)); refine blk_put (cs := #[.slice none 0 0, .slice none 0 0, .slice none 0 0, .int .i64 0, .int .i64 0]) ?_ 0 _ rfl; (with_reducible repeat (first | refine blk_drewN ?_ _ | refine blk_drew ?_ | refine blk_alloc ?_ _)); exact BK421.out) Tryd.underlying31 rfl (by kernel_rfl)) rfl ?_
             exact ⟨_, _, _, by first | rfl | (simp [errW_none, errW_some] <;> rfl) | (simp [*, errW_none, errW_some] <;> rfl) | (simp [tz_, *]; done), by first | exact Kd.R_nil _ _ _ _ _ | exact Kd.N_nil _ _ _ _ _ | exact Kd.V_nil _ _ _ _ _ | exact Kd.Q_nil _ _ _ _ _ | exact Kd.S_nil _ _ _ _ _, by first | exact Kd.R_nil _ _ _ _ _ | exact Kd.N_nil _ _ _ _ _ | exact Kd.V_nil _ _ _ _ _ | exact Kd.Q_nil _ _ _ _ _ | exact Kd.S_nil _ _ _ _ _, by first | exact Kd.R_nil _ _ _ _ _ | exact Kd.N_nil _ _ _ _ _ | exact Kd.V_nil _ _ _ _ _ | exact Kd.Q_nil _ _ _ _ _ | exact Kd.S_nil _ _ _ _ _, by repeat (first | (with_reducible first | exact HB.out | apply below_alloc | apply pw_below_drewN | apply below_drew1 | refine below_set ?_ GE421.out | refine below_set ?_ GE446.out) | exact HB.out)⟩
        ·rw [if_neg c14] at H
         exact absurd H (by simp)
       ·rw [if_neg c13] at H
        exact absurd H (by simp)
      ·rw [if_neg c11] at H
       exact absurd H (by simp)
     ·rw [if_neg c9] at H
      exact absurd H (by simp)
    ·rw [if_neg c8] at H
     have c8b0 : ((t430.length : Int) == 2) = false := beq_eq_false_iff_ne.mpr c8
     have c8b1 : ((t430.length : Int) != 2) = true := bne_iff_ne.mpr c8
     simp only [Option.some.injEq, Prod.mk.injEq] at H
     obtain ⟨rfl, rfl, rfl, rfl, rfl, rfl⟩ := H
     go_enter Tryd.func17, Tryd.ntmps17
     go_wp2_with (first | ((with_reducible refine gate_dst (N := 2) rfl ?_); refine box_event ?hg (N := 2) ?hd (cs := #[.slice none 0 0, .slice none 0 0, .slice none 0 0, .int .i64 0, .int .i64 0]) (t := 31) ?hr ?_; (case hd => rfl); (case hg => rfl); (case hr => first | (go_simp; done) | (go_simp; rfl)); intro gb421 hg w72 hbox hb; have n0_ := Aside0.mk (below_step (by repeat (first | (with_reducible first | exact HB.out | apply below_alloc | apply pw_below_drewN | apply below_drew1) | exact HB.out)) hb); have n1_ := Aside0.mk (hbox); have n2_ := Aside0.mk ((by rw [hg]; exact (below_size (by repeat (first | (with_reducible first | exact HB.out | apply below_alloc | apply pw_below_drewN | apply below_drew1) | exact HB.out))) : w.heap.size ≤ gb421)); have n3_ := Aside0.mk ((by rw [hg]; exact (below_size (by repeat (first | (with_reducible first | exact HB.out | apply below_alloc | apply pw_below_drewN | apply below_drew1) | exact HB.out))) : w.heap.size ≤ gb421)); clear HB; have HB := n0_; have BK421 := n1_; have GW421 := n2_; have GE421 := n3_; clear n0_ n1_ n2_ n3_; clear hb hbox hg) | ((with_reducible refine gate_callee (f := 44) rfl ?_); refine goesL_ (some 10) rfl rfl Tryd.func44 (by kernel_rfl) rfl #[.string a0, .int .u8 124] rfl (by (try simp only [List.map_toArray, List.map_cons, List.map_nil]); first | done | rfl) ?_; (with_reducible refine (spec_l08Split.calls k a0 124 t422 _ A2.out).mono ?_); rintro e w73 ⟨v423, rfl, ho0, hb⟩; refine ⟨_, rfl, ?_⟩; have n0_ := Aside0.mk (Kd.R_lower ho0 (below_size (by repeat (first | (with_reducible first | exact HB.out | apply below_alloc | apply pw_below_drewN | apply below_drew1 | refine below_set ?_ GE421.out) | exact HB.out)))); have n1_ := Aside0.mk (blk_below (g := gb421) (o := .cells #[.slice none 0 0, .slice none 0 0, .slice none 0 0, .int .i64 0, .int .i64 0] 31 (0, 0)) (by (with_reducible repeat (first | refine blk_drewN ?_ _ | refine blk_drew ?_ | refine blk_alloc ?_ _)); exact BK421.out) hb); have n2_ := Aside0.mk (below_step (by repeat (first | (with_reducible first | exact HB.out | apply below_alloc | apply pw_below_drewN | apply below_drew1 | refine below_set ?_ GE421.out) | exact HB.out)) hb); clear BK421; clear HB; have HO424 := n0_; have BK421 := n1_; have HB := n2_; clear n0_ n1_ n2_; (try clear hb); (try clear hb2); (try clear hk); (try clear hi); (try clear ho0); obtain ⟨Ao74, co74, eo74⟩ := Kd.R_slice HO424.out; subst eo74; have p425 : 0 ≤ (0 : Int) := (by omega); have q425 : 0 < (t422.length : Int) := of_decide_eq_true (by assumption); obtain ⟨ad425, e425, hx425_0⟩ := Kd.at_string (Kd.R_reads' HO424.out).2.2 0 p425 q425; cases e425; have qi425 : (0 < t422.length) = True := eq_true (by omega); (try rw [show ((0 : Int)).toNat = 0 from rfl] at hx425_0); (try rw [Addr.add_zero'] at hx425_0); replace p425 := eq_true p425; replace q425 := eq_true q425) | ((with_reducible refine gate_callee (f := 45) rfl ?_); refine goesL_ (some 18) rfl rfl Tryd.func45 (by kernel_rfl) rfl #[.string (rdOf ByteArray.empty t422 0)] rfl (by (try simp only [List.map_toArray, List.map_cons, List.map_nil]); first | done | rfl) ?_; (with_reducible refine (spec_l02Numbers.calls k (rdOf ByteArray.empty t422 0) t426 _ A5.out).mono ?_); rintro e w75 ⟨v427, rfl, ho0, hb⟩; refine ⟨_, rfl, ?_⟩; have n0_ := Aside0.mk (Kd.R_below (by (with_reducible repeat (first | apply Kd.R_alloc | apply Kd.R_drewN | apply Kd.R_drew)); exact HO424.out) hb); have n1_ := Aside0.mk (Kd.R_lower ho0 (below_size (by repeat (first | (with_reducible first | exact HB.out | apply below_alloc | apply pw_below_drewN | apply below_drew1 | refine below_set ?_ GE421.out) | exact HB.out)))); have n2_ := Aside0.mk (blk_below (g := gb421) (o := .cells #[.slice none 0 0, .slice none 0 0, .slice none 0 0, .int .i64 0, .int .i64 0] 31 (0, 0)) (by (with_reducible repeat (first | refine blk_drewN ?_ _ | refine blk_drew ?_ | refine blk_alloc ?_ _)); exact BK421.out) hb); have n3_ := Aside0.mk (below_step (by repeat (first | (with_reducible first | exact HB.out | apply below_alloc | apply pw_below_drewN | apply below_drew1 | refine below_set ?_ GE421.out) | exact HB.out)) hb); clear HO424; clear BK421; clear HB; have HO424 := n0_; have HO428 := n1_; have BK421 := n2_; have HB := n3_; clear n0_ n1_ n2_ n3_; (try clear hb); (try clear hb2); (try clear hk); (try clear hi); (try clear ho0); have p429 : 0 ≤ (3 : Int) := (by omega); have q429 : 3 < (t422.length : Int) := of_decide_eq_true (by assumption); obtain ⟨ad429, e429, hx429_0⟩ := Kd.at_string (Kd.R_reads' HO424.out).2.2 3 p429 q429; obtain rfl : ad425 = ad429 := (by injection e429); (try simp only [show (3 : Int).toNat = 3 from rfl, Nat.reduceMul, Nat.reduceEqDiff, Go.Addr.add, ↓reduceIte] at hx429_0); have qi429 : (3 < t422.length) = True := eq_true (by omega); (try rw [show ((3 : Int)).toNat = 3 from rfl] at hx429_0); replace p429 := eq_true p429; replace q429 := eq_true q429) | ((with_reducible refine gate_callee (f := 45) rfl ?_); refine goesL_ (some 22) rfl rfl Tryd.func45 (by kernel_rfl) rfl #[.string (rdOf ByteArray.empty t422 3)] rfl (by (try simp only [List.map_toArray, List.map_cons, List.map_nil]); first | done | rfl) ?_; (with_reducible refine (spec_l02Numbers.calls k (rdOf ByteArray.empty t422 3) t430 _ A7.out).mono ?_); rintro e w76 ⟨v431, rfl, ho0, hb⟩; refine ⟨_, rfl, ?_⟩; have n0_ := Aside0.mk (Kd.R_below (by (with_reducible repeat (first | apply Kd.R_alloc | apply Kd.R_drewN | apply Kd.R_drew)); exact HO424.out) hb); have n1_ := Aside0.mk (Kd.R_elder' (by (with_reducible repeat (first | apply Kd.R_alloc | apply Kd.R_drewN | apply Kd.R_drew)); exact HO428.out) (Kd.R_base ho0) hb); have n2_ := Aside0.mk (Kd.R_lower (Kd.R_new' ho0 (Kd.R_lt (by (with_reducible repeat (first | apply Kd.R_alloc | apply Kd.R_drewN | apply Kd.R_drew)); exact HO428.out))) (below_size (by repeat (first | (with_reducible first | exact HB.out | apply below_alloc | apply pw_below_drewN | apply below_drew1 | refine below_set ?_ GE421.out) | exact HB.out)))); have n3_ := Aside0.mk (blk_below (g := gb421) (o := .cells #[.slice none 0 0, .slice none 0 0, .slice none 0 0, .int .i64 0, .int .i64 0] 31 (0, 0)) (by (with_reducible repeat (first | refine blk_drewN ?_ _ | refine blk_drew ?_ | refine blk_alloc ?_ _)); exact BK421.out) hb); have n4_ := Aside0.mk (below_step (by repeat (first | (with_reducible first | exact HB.out | apply below_alloc | apply pw_below_drewN | apply below_drew1 | refine below_set ?_ GE421.out) | exact HB.out)) hb); clear HO424; clear HO428; clear BK421; clear HB; have HO424 := n0_; have HO428 := n1_; have HO432 := n2_; have BK421 := n3_; have HB := n4_; clear n0_ n1_ n2_ n3_ n4_; (try clear hb); (try clear hb2); (try clear hk); (try clear hi); (try clear ho0); obtain ⟨Ao77, co77, eo77⟩ := Kd.R_slice HO432.out; subst eo77; have hcz78_0 : w76.cell? ⟨gb421, 0, none⟩ = some (.slice none 0 0) := (blk_cell BK421.out 0).trans rfl; have hcz78_1 : w76.cell? ⟨gb421, 1, none⟩ = some (.slice none 0 0) := (blk_cell BK421.out 1).trans rfl; have hcz78_2 : w76.cell? ⟨gb421, 2, none⟩ = some (.slice none 0 0) := (blk_cell BK421.out 2).trans rfl; have hcz78_3 : w76.cell? ⟨gb421, 3, none⟩ = some (.int .i64 0) := (blk_cell BK421.out 3).trans rfl; have hcz78_4 : w76.cell? ⟨gb421, 4, none⟩ = some (.int .i64 0) := (blk_cell BK421.out 4).trans rfl; have hfz78_0 := blk_frozen BK421.out 0; have hfz78_1 := blk_frozen BK421.out 1; have hfz78_2 := blk_frozen BK421.out 2; have hfz78_3 := blk_frozen BK421.out 3; have hfz78_4 := blk_frozen BK421.out 4))
     refine bodyPost_ret (results_ct rfl _ _ gb421 31 #[.slice none 0 0, .slice none 0 0, .slice none 0 0, .int .i64 0, .int .i64 0] (0, 0) _ rfl (by (with_reducible repeat (first | refine blk_drewN ?_ _ | refine blk_drew ?_ | refine blk_alloc ?_ _)); refine blk_put (cs := #[.slice none 0 0, .slice none 0 0, .slice none 0 0, .int .i64 0, .int .i64 0]) ?_ 4 _ rfl; (with_reducible repeat (first | refine blk_drewN ?_ _ | refine blk_drew ?_ | refine blk_alloc ?_ _)); refine blk_put (cs := #[.slice none 0 0, .slice none 0 0, .slice none 0 0, .int .i64 0, .int .i64 0]) ?_ 3 _ rfl; (with_reducible repeat (first | refine blk_drewN ?_ _ | refine blk_drew ?_ | refine blk_alloc ?_ _)); refine blk_put (cs := #[.slice none 0 0, .slice none 0 0, .slice none 0 0, .int .i64 0, .int .i64 0]) ?_ 2 _ rfl; (with_reducible repeat (first | refine blk_drewN ?_ _ | refine blk_drew ?_ | refine blk_alloc ?_ _)); refine blk_put (cs := #[.slice none 0 0, .slice none 0 0, .slice none 0 0, .int .i64 0, .int .i64 0]) ?_ 1 _ rfl; (with_reducible repeat (first | refine blk_drewN ?_ _ | refine blk_drew ?_ | refine blk_alloc ?_ _)); refine blk_put (cs := #[.slice none 0 0, .slice none 0 0, .slice none 0 0, .int .i64 0, .int .i64 0]) ?_ 0 _ rfl; (with_reducible repeat (first | refine blk_drewN ?_ _ | refine blk_drew ?_ | refine blk_alloc ?_ _)); exact BK421.out) Tryd.underlying31 rfl (by kernel_rfl)) rfl ?_
     exact ⟨_, _, _, by first | rfl | (simp [errW_none, errW_some] <;> rfl) | (simp [*, errW_none, errW_some] <;> rfl) | (simp [tz_, *]; done), by first | exact Kd.R_nil _ _ _ _ _ | exact Kd.N_nil _ _ _ _ _ | exact Kd.V_nil _ _ _ _ _ | exact Kd.Q_nil _ _ _ _ _ | exact Kd.S_nil _ _ _ _ _, by first | exact Kd.R_nil _ _ _ _ _ | exact Kd.N_nil _ _ _ _ _ | exact Kd.V_nil _ _ _ _ _ | exact Kd.Q_nil _ _ _ _ _ | exact Kd.S_nil _ _ _ _ _, by first | exact Kd.R_nil _ _ _ _ _ | exact Kd.N_nil _ _ _ _ _ | exact Kd.V_nil _ _ _ _ _ | exact Kd.Q_nil _ _ _ _ _ | exact Kd.S_nil _ _ _ _ _, by repeat (first | (with_reducible first | exact HB.out | apply below_alloc | apply pw_below_drewN | apply below_drew1 | refine below_set ?_ GE421.out) | exact HB.out)⟩
   ·rw [if_neg c6] at H
    exact absurd H (by simp)
  ·rw [if_neg c4] at H
   exact absurd H (by simp)
 ·rw [if_neg c3] at H
  have c3b0 : ((t422.length : Int) == 4) = false := beq_eq_false_iff_ne.mpr c3
  have c3b1 : ((t422.length : Int) != 4) = true := bne_iff_ne.mpr c3
  simp only [Option.some.injEq, Prod.mk.injEq] at H
  obtain ⟨rfl, rfl, rfl, rfl, rfl, rfl⟩ := H
  go_enter Tryd.func17, Tryd.ntmps17
  go_wp2_with (first | ((with_reducible refine gate_dst (N := 2) rfl ?_); refine box_event ?hg (N := 2) ?hd (cs := #[.slice none 0 0, .slice none 0 0, .slice none 0 0, .int .i64 0, .int .i64 0]) (t := 31) ?hr ?_; (case hd => rfl); (case hg => rfl); (case hr => first | (go_simp; done) | (go_simp; rfl)); intro gb421 hg w79 hbox hb; have n0_ := Aside0.mk (below_step (by repeat (first | (with_reducible first | exact HB.out | apply below_alloc | apply pw_below_drewN | apply below_drew1) | exact HB.out)) hb); have n1_ := Aside0.mk (hbox); have n2_ := Aside0.mk ((by rw [hg]; exact (below_size (by repeat (first | (with_reducible first | exact HB.out | apply below_alloc | apply pw_below_drewN | apply below_drew1) | exact HB.out))) : w.heap.size ≤ gb421)); have n3_ := Aside0.mk ((by rw [hg]; exact (below_size (by repeat (first | (with_reducible first | exact HB.out | apply below_alloc | apply pw_below_drewN | apply below_drew1) | exact HB.out))) : w.heap.size ≤ gb421)); clear HB; have HB := n0_; have BK421 := n1_; have GW421 := n2_; have GE421 := n3_; clear n0_ n1_ n2_ n3_; clear hb hbox hg) | ((with_reducible refine gate_callee (f := 44) rfl ?_); refine goesL_ (some 10) rfl rfl Tryd.func44 (by kernel_rfl) rfl #[.string a0, .int .u8 124] rfl (by (try simp only [List.map_toArray, List.map_cons, List.map_nil]); first | done | rfl) ?_; (with_reducible refine (spec_l08Split.calls k a0 124 t422 _ A2.out).mono ?_); rintro e w80 ⟨v423, rfl, ho0, hb⟩; refine ⟨_, rfl, ?_⟩; have n0_ := Aside0.mk (Kd.R_lower ho0 (below_size (by repeat (first | (with_reducible first | exact HB.out | apply below_alloc | apply pw_below_drewN | apply below_drew1 | refine below_set ?_ GE421.out) | exact HB.out)))); have n1_ := Aside0.mk (blk_below (g := gb421) (o := .cells #[.slice none 0 0, .slice none 0 0, .slice none 0 0, .int .i64 0, .int .i64 0] 31 (0, 0)) (by (with_reducible repeat (first | refine blk_drewN ?_ _ | refine blk_drew ?_ | refine blk_alloc ?_ _)); exact BK421.out) hb); have n2_ := Aside0.mk (below_step (by repeat (first | (with_reducible first | exact HB.out | apply below_alloc | apply pw_below_drewN | apply below_drew1 | refine below_set ?_ GE421.out) | exact HB.out)) hb); clear BK421; clear HB; have HO424 := n0_; have BK421 := n1_; have HB := n2_; clear n0_ n1_ n2_; (try clear hb); (try clear hb2); (try clear hk); (try clear hi); (try clear ho0); obtain ⟨Ao81, co81, eo81⟩ := Kd.R_slice HO424.out; subst eo81; have hcz82_0 : w80.cell? ⟨gb421, 0, none⟩ = some (.slice none 0 0) := (blk_cell BK421.out 0).trans rfl; have hcz82_1 : w80.cell? ⟨gb421, 1, none⟩ = some (.slice none 0 0) := (blk_cell BK421.out 1).trans rfl; have hcz82_2 : w80.cell? ⟨gb421, 2, none⟩ = some (.slice none 0 0) := (blk_cell BK421.out 2).trans rfl; have hcz82_3 : w80.cell? ⟨gb421, 3, none⟩ = some (.int .i64 0) := (blk_cell BK421.out 3).trans rfl; have hcz82_4 : w80.cell? ⟨gb421, 4, none⟩ = some (.int .i64 0) := (blk_cell BK421.out 4).trans rfl; have hfz82_0 := blk_frozen BK421.out 0; have hfz82_1 := blk_frozen BK421.out 1; have hfz82_2 := blk_frozen BK421.out 2; have hfz82_3 := blk_frozen BK421.out 3; have hfz82_4 := blk_frozen BK421.out 4))
  refine bodyPost_ret (results_ct rfl _ _ gb421 31 #[.slice none 0 0, .slice none 0 0, .slice none 0 0, .int .i64 0, .int .i64 0] (0, 0) _ rfl (by (with_reducible repeat (first | refine blk_drewN ?_ _ | refine blk_drew ?_ | refine blk_alloc ?_ _)); refine blk_put (cs := #[.slice none 0 0, .slice none 0 0, .slice none 0 0, .int .i64 0, .int .i64 0]) ?_ 4 _ rfl; (with_reducible repeat (first | refine blk_drewN ?_ _ | refine blk_drew ?_ | refine blk_alloc ?_ _)); refine blk_put (cs := #[.slice none 0 0, .slice none 0 0, .slice none 0 0, .int .i64 0, .int .i64 0]) ?_ 3 _ rfl; (with_reducible repeat (first | refine blk_drewN ?_ _ | refine blk_drew ?_ | refine blk_alloc ?_ _)); refine blk_put (cs := #[.slice none 0 0, .slice none 0 0, .slice none 0 0, .int .i64 0, .int .i64 0]) ?_ 2 _ rfl; (with_reducible repeat (first | refine blk_drewN ?_ _ | refine blk_drew ?_ | refine blk_alloc ?_ _)); refine blk_put (cs := #[.slice none 0 0, .slice none 0 0, .slice none 0 0, .int .i64 0, .int .i64 0]) ?_ 1 _ rfl; (with_reducible repeat (first | refine blk_drewN ?_ _ | refine blk_drew ?_ | refine blk_alloc ?_ _)); refine blk_put (cs := #[.slice none 0 0, .slice none 0 0, .slice none 0 0, .int .i64 0, .int .i64 0]) ?_ 0 _ rfl; (with_reducible repeat (first | refine blk_drewN ?_ _ | refine blk_drew ?_ | refine blk_alloc ?_ _)); exact BK421.out) Tryd.underlying31 rfl (by kernel_rfl)) rfl ?_
  exact ⟨_, _, _, by first | rfl | (simp [errW_none, errW_some] <;> rfl) | (simp [*, errW_none, errW_some] <;> rfl) | (simp [tz_, *]; done), by first | exact Kd.R_nil _ _ _ _ _ | exact Kd.N_nil _ _ _ _ _ | exact Kd.V_nil _ _ _ _ _ | exact Kd.Q_nil _ _ _ _ _ | exact Kd.S_nil _ _ _ _ _, by first | exact Kd.R_nil _ _ _ _ _ | exact Kd.N_nil _ _ _ _ _ | exact Kd.V_nil _ _ _ _ _ | exact Kd.Q_nil _ _ _ _ _ | exact Kd.S_nil _ _ _ _ _, by first | exact Kd.R_nil _ _ _ _ _ | exact Kd.N_nil _ _ _ _ _ | exact Kd.V_nil _ _ _ _ _ | exact Kd.Q_nil _ _ _ _ _ | exact Kd.S_nil _ _ _ _ _, by repeat (first | (with_reducible first | exact HB.out | apply below_alloc | apply pw_below_drewN | apply below_drew1 | refine below_set ?_ GE421.out) | exact HB.out)⟩


def impl_readSome.f (k : Nat) (a0 : ByteArray) : Option (List Int × Bool) := if a0.toList = ([] : List UInt8) then (some ((([] : List Int)), true)) else ((impl_readAll.f k a0 (⟨#[44]⟩ : ByteArray) (-1000000000) 1000000000).bind fun bt469 => (some (bt469.1, bt469.2)))
set_option maxHeartbeats 8000000 in
set_option maxRecDepth 100000 in
theorem impl_readSome.calls (k : Nat) (a0 : ByteArray) (r1 : List Int) (r2 : Bool) (w : World) (hT_ : Tab2 w) (h : impl_readSome.f k a0 = some (r1, r2)) :
  Calls Tryd.prog 48 #[.string a0] w fun e w' => ∃ v0_ : Value, e = .returned (.tuple #[v0_, .bool r2]) ∧ Kd.R (Kd.int .i64) 2 w' w.heap.size (fun _ => True) v0_ r1 ∧ Below w.heap.size w w' := by
 have HLT_ := Aside0.mk hT_
 clear hT_
 have HB := Aside0.mk (Below.refl w.heap.size w)
 have H : (if a0.toList = ([] : List UInt8) then (some ((([] : List Int)), true)) else ((impl_readAll.f k a0 (⟨#[44]⟩ : ByteArray) (-1000000000) 1000000000).bind fun bt469 => (some (bt469.1, bt469.2)))) = some (r1, r2) := h
 clear h
 by_cases c2 : a0.toList = ([] : List UInt8)
 ·rw [if_pos c2] at H
  have c2b0 : (a0.toList == ([] : List UInt8)) = true := beq_iff_eq.mpr c2
  have c2b1 : (a0.toList != ([] : List UInt8)) = false := bne_eq_false_iff_eq.mpr c2
  clear c2
  obtain ⟨y466, hy466⟩ : ∃ y_ : List Int, y_ = (([] : List Int)) := ⟨_, rfl⟩
  replace H : (some (y466, true)) = some (r1, r2) := by first | (rw [hy466]; with_reducible exact H) | (have H2_ := (Option.bind_some _ _).symm.trans H; rw [hy466]; with_reducible exact H2_) | (have H2_ := (Option.bind_some _ _).symm.trans H; with_reducible exact H2_) | with_reducible exact H | (rw [hy466]; exact H) | exact H
  have Ny466 := Aside0.mk hy466
  clear hy466
  simp only [Option.some.injEq, Prod.mk.injEq] at H
  obtain ⟨rfl, rfl⟩ := H
  go_enter Tryd.func48, Tryd.ntmps48
  go_wp2_with (first | ((with_reducible refine gate_dst (N := 6) rfl ?_); refine Kd.R_lit (Kd.int .i64) _ 2 ?hg (N := 6) ?hd (xs := ([] : List Int)) (inner := []) (ok := fun _ => True) (okp := fun _ => True) ?hr ?hp (fun _ hk => hk) trivial (Below.refl _ _) (Nat.le_refl _) (by simp) ?_; (case hd => rfl); (case hg => rfl); (case hr => first | (go_simp; done) | (go_simp; rfl)); (case hp => exact (Reps.none _ _)); intro v467 w3 ho4 hb hg_ hnew_; clear hg_ hnew_; (first | rw [← Ny466.out] at ho4 | (simp only [Int.reduceToNat] at ho4; rw [← Ny466.out] at ho4)); have n0_ := Aside0.mk (Kd.R_lower ho4 (below_size (by repeat (first | (with_reducible first | exact HB.out | apply below_alloc | apply pw_below_drewN | apply below_drew1) | exact HB.out)))); have n1_ := Aside0.mk (below_step (by repeat (first | (with_reducible first | exact HB.out | apply below_alloc | apply pw_below_drewN | apply below_drew1) | exact HB.out)) hb); clear HB; have HO468 := n0_; have HB := n1_; clear n0_ n1_; clear hb ho4))
  go_ret2
  exact ⟨_, by first | rfl | (simp [errW_none, errW_some] <;> rfl) | (simp [*, errW_none, errW_some] <;> rfl) | (simp [tz_, *]; done), by (with_reducible repeat (first | apply Kd.R_alloc | apply Kd.R_drewN | apply Kd.R_drew)); exact HO468.out, by repeat (first | (with_reducible first | exact HB.out | apply below_alloc | apply pw_below_drewN | apply below_drew1) | exact HB.out)⟩
 ·rw [if_neg c2] at H
  have c2b0 : (a0.toList == ([] : List UInt8)) = false := beq_eq_false_iff_ne.mpr c2
  have c2b1 : (a0.toList != ([] : List UInt8)) = true := bne_iff_ne.mpr c2
  replace H := Option.bind_eq_some_iff.mp H
  obtain ⟨⟨t469, t470⟩, A50, H⟩ := H
  replace H : (some (t469, t470)) = some (r1, r2) := H
  have A5 := Aside0.mk A50
  clear A50
  simp only [Option.some.injEq, Prod.mk.injEq] at H
  obtain ⟨rfl, rfl⟩ := H
  go_enter Tryd.func48, Tryd.ntmps48
  go_wp2_with (first | ((with_reducible refine gate_callee (f := 47) rfl ?_); refine goesL_ (some 8) rfl rfl Tryd.func47 (by kernel_rfl) rfl #[.string a0, .string (⟨#[44]⟩ : ByteArray), .int .i64 (-1000000000), .int .i64 1000000000] rfl (by (try simp only [List.map_toArray, List.map_cons, List.map_nil]); first | done | rfl) ?_; (with_reducible refine (impl_readAll.calls k a0 (⟨#[44]⟩ : ByteArray) (-1000000000) 1000000000 t469 t470 _ ?side1 A5.out).mono ?_); (case side1 => exact Tab2.on HLT_.out (by repeat (first | (with_reducible first | exact HB.out | apply below_alloc | apply pw_below_drewN | apply below_drew1) | exact HB.out))); rintro e w6 ⟨v471, rfl, ho0, hb⟩; refine ⟨_, rfl, ?_⟩; have n0_ := Aside0.mk (Kd.R_lower ho0 (below_size (by repeat (first | (with_reducible first | exact HB.out | apply below_alloc | apply pw_below_drewN | apply below_drew1) | exact HB.out)))); have n1_ := Aside0.mk (below_step (by repeat (first | (with_reducible first | exact HB.out | apply below_alloc | apply pw_below_drewN | apply below_drew1) | exact HB.out)) hb); clear HB; have HO472 := n0_; have HB := n1_; clear n0_ n1_; (try clear hb); (try clear hb2); (try clear hk); (try clear hi); (try clear ho0)))
  go_ret2
  exact ⟨_, by first | rfl | (simp [errW_none, errW_some] <;> rfl) | (simp [*, errW_none, errW_some] <;> rfl) | (simp [tz_, *]; done), by (with_reducible repeat (first | apply Kd.R_alloc | apply Kd.R_drewN | apply Kd.R_drew)); exact HO472.out, by repeat (first | (with_reducible first | exact HB.out | apply below_alloc | apply pw_below_drewN | apply below_drew1) | exact HB.out)⟩

end Go.Proofs.YtfcadpkhmkjibaaDoor.P
