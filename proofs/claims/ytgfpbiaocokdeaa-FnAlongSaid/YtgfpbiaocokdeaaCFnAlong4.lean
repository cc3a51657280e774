/- What the claim of FnAlong bears, part 4: functions of the program as plain Lean functions, with proofs that the code comes to their answers, and lemmas on them. -/
import Derived.Test.YtgfpbiaocokdeaaCFnAlong0
import Derived.Test.YtgfpbiaocokdeaaCFnAlong1
import Derived.Test.YtgfpbiaocokdeaaCFnAlong2
import Derived.Test.YtgfpbiaocokdeaaCFnAlong3
set_option linter.unusedVariables false
set_option linter.unusedSimpArgs false
namespace Go.Proofs.Ytgfpbiaocokdeaa.P
open Go.RowKit Go.Proofs.YtgfpbiaocokdeaaW.PrintWords Go.Proofs.YtgfpbiaocokdeaaW.PrintLast Go.Proofs.YtgfpbiaocokdeaaW.PrintMore
attribute [local go_sem] max2_int min2_int max_two min_two max_three min_three max_four min_four   -- for this text's walks alone

mutual
def laws_FnAlong.j0 : Nat → Int → List Int → List Int → List Int → Bool → List Int → List (S59) → Int → Int → Int → Int → List (S124) → Option (Bool)
 | 0, _, _, _, _, _, _, _, _, _, _, _, _ => none
 | k + 1, x7, x9, x11, x13, x89, x657000, x657001, x665000, x665001, x665002, x665003, x665004 => if x89 = true then (none) else (laws_FnAlong.l0 k x7 x9 x11 x13 0 x657000 x657001 x665000 x665001 x665002 x665003 x665004)
def laws_FnAlong.l0 : Nat → Int → List Int → List Int → List Int → Int → List Int → List (S59) → Int → Int → Int → Int → List (S124) → Option (Bool)
 | 0, _, _, _, _, _, _, _, _, _, _, _, _ => none
 | k + 1, x7, x9, x11, x13, x15, x657000, x657001, x665000, x665001, x665002, x665003, x665004 => if x15 < x7 then ((impl_PoseAt.f k x665000 x665001 x665002 x665003 x665004 x15).bind fun bt679 => ((impl_ClassAt.f k x657000 x657001 x15 bt679.2.1).bind fun bt685 => ((impl_WeightOf.f k x657000 x657001 x15 bt679.2.1).bind fun bt687 => ((impl_FaceOf.f k x657000 x657001 x15 bt679.2.1).bind fun bt689 => (if bt679.2.2.2.2 = true then (if bt685.2 = true then (if bt687.2 = true then (if bt689.2 = true then (if 0 ≤ x15 then (if x15 < (x9.length : Int) then (if (rd x9 x15) = bt685.1 then (if x15 < (x11.length : Int) then (if (rd x11 x15) = bt687.1 then (laws_FnAlong.j2 k x7 x9 x11 x13 x15 bt689.1 ((bt689.1.length : Int) != (wrap64 ((x657000.length : Int) + 1))) x657000 x657001 x665000 x665001 x665002 x665003 x665004) else (none)) else (none)) else (none)) else (none)) else (none)) else (none)) else (none)) else (none)) else (none)))))) else (some true)
def laws_FnAlong.j2 : Nat → Int → List Int → List Int → List Int → Int → List Int → Bool → List Int → List (S59) → Int → Int → Int → Int → List (S124) → Option (Bool)
 | 0, _, _, _, _, _, _, _, _, _, _, _, _, _, _ => none
 | k + 1, x7, x9, x11, x13, x15, x22, x163, x657000, x657001, x665000, x665001, x665002, x665003, x665004 => if x163 = true then (none) else (laws_FnAlong.l1 k x7 x9 x11 x13 x15 x22 0 0 x657000 x657001 x665000 x665001 x665002 x665003 x665004)
def laws_FnAlong.l1 : Nat → Int → List Int → List Int → List Int → Int → List Int → Int → Int → List Int → List (S59) → Int → Int → Int → Int → List (S124) → Option (Bool)
 | 0, _, _, _, _, _, _, _, _, _, _, _, _, _, _, _ => none
 | k + 1, x7, x9, x11, x13, x15, x22, x24, x25, x657000, x657001, x665000, x665001, x665002, x665003, x665004 => if x25 < (x657000.length : Int) then (if 0 ≤ x25 then (if x25 < (x22.length : Int) then (if (rd x22 x25) > 0 then (laws_FnAlong.l1 k x7 x9 x11 x13 x15 x22 (wrap64 (x24 + 1)) (wrap64 (x25 + 1)) x657000 x657001 x665000 x665001 x665002 x665003 x665004) else (laws_FnAlong.l1 k x7 x9 x11 x13 x15 x22 x24 (wrap64 (x25 + 1)) x657000 x657001 x665000 x665001 x665002 x665003 x665004)) else (none)) else (none)) else ((laws_r8Has.f k x13 x15).bind fun t696 => (if (t696 != (decide (x24 > 1))) = true then (none) else (laws_FnAlong.l0 k x7 x9 x11 x13 (wrap64 (x15 + 1)) x657000 x657001 x665000 x665001 x665002 x665003 x665004)))
end
def laws_FnAlong.f (k : Nat) (l0 : List Int) (l1 : List Int) : Option (Bool) := (laws_r8Long.f l0 l1).bind fun t649 => (if t649 = true then (some true) else ((spec_R8Ground.f k l0).bind fun bt650 => ((spec_R8Axis.f k l1).bind fun bt657 => ((impl_RingsOf.f k bt657.1 bt657.2.1 bt657.2.2.1 bt657.2.2.2.1 bt657.2.2.2.2).bind fun bt665 => ((impl_ClassesAlong.f k bt650.1 bt650.2 bt657.1 bt657.2.1 bt657.2.2.1 bt657.2.2.2.1 bt657.2.2.2.2).bind fun bt667 => ((impl_PrognosisOf.f k bt650.1 bt650.2 bt657.1 bt657.2.1 bt657.2.2.1 bt657.2.2.2.1 bt657.2.2.2.2).bind fun bt671 => ((impl_MixedRings.f k bt650.1 bt650.2 bt657.1 bt657.2.1 bt657.2.2.1 bt657.2.2.2.1 bt657.2.2.2.2).bind fun bt675 => (if bt665.2 = true then (if bt667.2 = true then (if bt671.2 = true then (if bt675.2 = true then (if bt665.1 < 1 then (none) else (if bt665.1 > 60 then (none) else (if (bt667.1.length : Int) = bt665.1 then (laws_FnAlong.j0 k bt665.1 bt667.1 bt671.1 bt675.1 ((bt671.1.length : Int) != bt665.1) bt650.1 bt650.2 bt657.1 bt657.2.1 bt657.2.2.1 bt657.2.2.2.1 bt657.2.2.2.2) else (none)))) else (none)) else (none)) else (none)) else (none)))))))))
set_option maxHeartbeats 8000000 in
set_option maxRecDepth 100000 in
theorem laws_FnAlong.calls (k : Nat) (A0 : Option Addr) (c0 : Nat) (l0 : List Int) (A1 : Option Addr) (c1 : Nat) (l1 : List Int) (r : Bool) (w : World) (hr0 : Kd.C (Kd.int .u8) w A0 l0.length l0) (hc0 : l0.length ≤ c0) (hr1 : Kd.C (Kd.int .u8) w A1 l1.length l1) (hc1 : l1.length ≤ c1) (h : laws_FnAlong.f k l0 l1 = some r) :
  Calls Try.prog 5 #[.slice A0 l0.length c0, .slice A1 l1.length c1] w fun e w' => e = .returned (.bool r) ∧ Below w.heap.size w w' := by
 have hu31 := Try.underlying31; have hu47 := Try.underlying47; have hu44 := Try.underlying44; have HR0 := Aside0.mk hr0; have HC0 := Aside0.mk hc0; clear hr0 hc0; have HR1 := Aside0.mk hr1; have HC1 := Aside0.mk hc1; clear hr1 hc1; have HB := Aside0.mk (Below.refl w.heap.size w); have H : ((laws_r8Long.f l0 l1).bind fun t649 => (if t649 = true then (some true) else ((spec_R8Ground.f k l0).bind fun bt650 => ((spec_R8Axis.f k l1).bind fun bt657 => ((impl_RingsOf.f k bt657.1 bt657.2.1 bt657.2.2.1 bt657.2.2.2.1 bt657.2.2.2.2).bind fun bt665 => ((impl_ClassesAlong.f k bt650.1 bt650.2 bt657.1 bt657.2.1 bt657.2.2.1 bt657.2.2.2.1 bt657.2.2.2.2).bind fun bt667 => ((impl_PrognosisOf.f k bt650.1 bt650.2 bt657.1 bt657.2.1 bt657.2.2.1 bt657.2.2.2.1 bt657.2.2.2.2).bind fun bt671 => ((impl_MixedRings.f k bt650.1 bt650.2 bt657.1 bt657.2.1 bt657.2.2.1 bt657.2.2.2.1 bt657.2.2.2.2).bind fun bt675 => (if bt665.2 = true then (if bt667.2 = true then (if bt671.2 = true then (if bt675.2 = true then (if bt665.1 < 1 then (none) else (if bt665.1 > 60 then (none) else (if (bt667.1.length : Int) = bt665.1 then (laws_FnAlong.j0 k bt665.1 bt667.1 bt671.1 bt675.1 ((bt671.1.length : Int) != bt665.1) bt650.1 bt650.2 bt657.1 bt657.2.1 bt657.2.2.1 bt657.2.2.2.1 bt657.2.2.2.2) else (none)))) else (none)) else (none)) else (none)) else (none)))))))))) = some r := h; clear h; replace H := Option.bind_eq_some_iff.mp H; obtain ⟨t649, A30, H⟩ := H; replace H : (if t649 = true then (some true) else ((spec_R8Ground.f k l0).bind fun bt650 => ((spec_R8Axis.f k l1).bind fun bt657 => ((impl_RingsOf.f k bt657.1 bt657.2.1 bt657.2.2.1 bt657.2.2.2.1 bt657.2.2.2.2).bind fun bt665 => ((impl_ClassesAlong.f k bt650.1 bt650.2 bt657.1 bt657.2.1 bt657.2.2.1 bt657.2.2.2.1 bt657.2.2.2.2).bind fun bt667 => ((impl_PrognosisOf.f k bt650.1 bt650.2 bt657.1 bt657.2.1 bt657.2.2.1 bt657.2.2.2.1 bt657.2.2.2.2).bind fun bt671 => ((impl_MixedRings.f k bt650.1 bt650.2 bt657.1 bt657.2.1 bt657.2.2.1 bt657.2.2.2.1 bt657.2.2.2.2).bind fun bt675 => (if bt665.2 = true then (if bt667.2 = true then (if bt671.2 = true then (if bt675.2 = true then (if bt665.1 < 1 then (none) else (if bt665.1 > 60 then (none) else (if (bt667.1.length : Int) = bt665.1 then (laws_FnAlong.j0 k bt665.1 bt667.1 bt671.1 bt675.1 ((bt671.1.length : Int) != bt665.1) bt650.1 bt650.2 bt657.1 bt657.2.1 bt657.2.2.1 bt657.2.2.2.1 bt657.2.2.2.2) else (none)))) else (none)) else (none)) else (none)) else (none))))))))) = some r := H; have A3 := Aside0.mk A30; clear A30
 by_cases c4 : t649 = true
 ·subst c4; (have H1 : (some true) = some r := by rw [if_pos rfl] at H; exact H); clear H; have H := H1; clear H1; obtain rfl := Option.some.inj H
  go_enter Try.func5, Try.ntmps5
  go_wp2_with (first | ((with_reducible refine gate_callee (f := 21) rfl ?_); refine goesL_ (some 28) rfl rfl Try.func21 kr_ rfl #[.slice A0 l0.length c0, .slice A1 l1.length c1] rfl km_ ?_; (with_reducible refine (laws_r8Long.calls _ _ l0 _ _ l1 true _ ?side1 ?side2 ?side3 ?side4 A3.out).mono ?_); (case side1 => repeat (first | exact HR0.out | (with_reducible first | refine Kd.C_alloc ?_ _ | refine Kd.C_drewN ?_ _ | refine Kd.C_drew ?_))); (case side2 => exact HC0.out); (case side3 => repeat (first | exact HR1.out | (with_reducible first | refine Kd.C_alloc ?_ _ | refine Kd.C_drewN ?_ _ | refine Kd.C_drew ?_))); (case side4 => exact HC1.out); rintro e w' ⟨rfl, ⟨nd, rfl⟩⟩; refine ⟨_, rfl, ?_⟩))
  go_ret
  exact ⟨by first | rfl | (simp [errW_none, errW_some] <;> rfl) | (simp [*, errW_none, errW_some] <;> rfl) | (simp [tz_, *]; done), kh0_ HB.out⟩
 ·replace c4 := Bool.eq_false_iff.mpr c4; subst c4; (have H1 : ((spec_R8Ground.f k l0).bind fun bt650 => ((spec_R8Axis.f k l1).bind fun bt657 => ((impl_RingsOf.f k bt657.1 bt657.2.1 bt657.2.2.1 bt657.2.2.2.1 bt657.2.2.2.2).bind fun bt665 => ((impl_ClassesAlong.f k bt650.1 bt650.2 bt657.1 bt657.2.1 bt657.2.2.1 bt657.2.2.2.1 bt657.2.2.2.2).bind fun bt667 => ((impl_PrognosisOf.f k bt650.1 bt650.2 bt657.1 bt657.2.1 bt657.2.2.1 bt657.2.2.2.1 bt657.2.2.2.2).bind fun bt671 => ((impl_MixedRings.f k bt650.1 bt650.2 bt657.1 bt657.2.1 bt657.2.2.1 bt657.2.2.2.1 bt657.2.2.2.2).bind fun bt675 => (if bt665.2 = true then (if bt667.2 = true then (if bt671.2 = true then (if bt675.2 = true then (if bt665.1 < 1 then (none) else (if bt665.1 > 60 then (none) else (if (bt667.1.length : Int) = bt665.1 then (laws_FnAlong.j0 k bt665.1 bt667.1 bt671.1 bt675.1 ((bt671.1.length : Int) != bt665.1) bt650.1 bt650.2 bt657.1 bt657.2.1 bt657.2.2.1 bt657.2.2.2.1 bt657.2.2.2.2) else (none)))) else (none)) else (none)) else (none)) else (none)))))))) = some r := by rw [if_neg (show ¬ (false = true) by decide)] at H; exact H); clear H; have H := H1; clear H1; replace H := Option.bind_eq_some_iff.mp H; obtain ⟨⟨t650, t653⟩, A50, H⟩ := H; replace H : ((spec_R8Axis.f k l1).bind fun bt657 => ((impl_RingsOf.f k bt657.1 bt657.2.1 bt657.2.2.1 bt657.2.2.2.1 bt657.2.2.2.2).bind fun bt665 => ((impl_ClassesAlong.f k t650 t653 bt657.1 bt657.2.1 bt657.2.2.1 bt657.2.2.2.1 bt657.2.2.2.2).bind fun bt667 => ((impl_PrognosisOf.f k t650 t653 bt657.1 bt657.2.1 bt657.2.2.1 bt657.2.2.2.1 bt657.2.2.2.2).bind fun bt671 => ((impl_MixedRings.f k t650 t653 bt657.1 bt657.2.1 bt657.2.2.1 bt657.2.2.2.1 bt657.2.2.2.2).bind fun bt675 => (if bt665.2 = true then (if bt667.2 = true then (if bt671.2 = true then (if bt675.2 = true then (if bt665.1 < 1 then (none) else (if bt665.1 > 60 then (none) else (if (bt667.1.length : Int) = bt665.1 then (laws_FnAlong.j0 k bt665.1 bt667.1 bt671.1 bt675.1 ((bt671.1.length : Int) != bt665.1) t650 t653 bt657.1 bt657.2.1 bt657.2.2.1 bt657.2.2.2.1 bt657.2.2.2.2) else (none)))) else (none)) else (none)) else (none)) else (none))))))) = some r := H; have A5 := Aside0.mk A50; clear A50; replace H := Option.bind_eq_some_iff.mp H; obtain ⟨⟨t657, t658, t659, t660, t661⟩, A60, H⟩ := H; replace H : ((impl_RingsOf.f k t657 t658 t659 t660 t661).bind fun bt665 => ((impl_ClassesAlong.f k t650 t653 t657 t658 t659 t660 t661).bind fun bt667 => ((impl_PrognosisOf.f k t650 t653 t657 t658 t659 t660 t661).bind fun bt671 => ((impl_MixedRings.f k t650 t653 t657 t658 t659 t660 t661).bind fun bt675 => (if bt665.2 = true then (if bt667.2 = true then (if bt671.2 = true then (if bt675.2 = true then (if bt665.1 < 1 then (none) else (if bt665.1 > 60 then (none) else (if (bt667.1.length : Int) = bt665.1 then (laws_FnAlong.j0 k bt665.1 bt667.1 bt671.1 bt675.1 ((bt671.1.length : Int) != bt665.1) t650 t653 t657 t658 t659 t660 t661) else (none)))) else (none)) else (none)) else (none)) else (none)))))) = some r := H; have A6 := Aside0.mk A60; clear A60; replace H := Option.bind_eq_some_iff.mp H; obtain ⟨⟨t665, t666⟩, A70, H⟩ := H; replace H : ((impl_ClassesAlong.f k t650 t653 t657 t658 t659 t660 t661).bind fun bt667 => ((impl_PrognosisOf.f k t650 t653 t657 t658 t659 t660 t661).bind fun bt671 => ((impl_MixedRings.f k t650 t653 t657 t658 t659 t660 t661).bind fun bt675 => (if t666 = true then (if bt667.2 = true then (if bt671.2 = true then (if bt675.2 = true then (if t665 < 1 then (none) else (if t665 > 60 then (none) else (if (bt667.1.length : Int) = t665 then (laws_FnAlong.j0 k t665 bt667.1 bt671.1 bt675.1 ((bt671.1.length : Int) != t665) t650 t653 t657 t658 t659 t660 t661) else (none)))) else (none)) else (none)) else (none)) else (none))))) = some r := H; have A7 := Aside0.mk A70; clear A70; replace H := Option.bind_eq_some_iff.mp H; obtain ⟨⟨t667, t670⟩, A80, H⟩ := H; replace H : ((impl_PrognosisOf.f k t650 t653 t657 t658 t659 t660 t661).bind fun bt671 => ((impl_MixedRings.f k t650 t653 t657 t658 t659 t660 t661).bind fun bt675 => (if t666 = true then (if t670 = true then (if bt671.2 = true then (if bt675.2 = true then (if t665 < 1 then (none) else (if t665 > 60 then (none) else (if (t667.length : Int) = t665 then (laws_FnAlong.j0 k t665 t667 bt671.1 bt675.1 ((bt671.1.length : Int) != t665) t650 t653 t657 t658 t659 t660 t661) else (none)))) else (none)) else (none)) else (none)) else (none)))) = some r := H; have A8 := Aside0.mk A80; clear A80; replace H := Option.bind_eq_some_iff.mp H; obtain ⟨⟨t671, t674⟩, A90, H⟩ := H; replace H : ((impl_MixedRings.f k t650 t653 t657 t658 t659 t660 t661).bind fun bt675 => (if t666 = true then (if t670 = true then (if t674 = true then (if bt675.2 = true then (if t665 < 1 then (none) else (if t665 > 60 then (none) else (if (t667.length : Int) = t665 then (laws_FnAlong.j0 k t665 t667 t671 bt675.1 ((t671.length : Int) != t665) t650 t653 t657 t658 t659 t660 t661) else (none)))) else (none)) else (none)) else (none)) else (none))) = some r := H; have A9 := Aside0.mk A90; clear A90; replace H := Option.bind_eq_some_iff.mp H; obtain ⟨⟨t675, t678⟩, A100, H⟩ := H; replace H : (if t666 = true then (if t670 = true then (if t674 = true then (if t678 = true then (if t665 < 1 then (none) else (if t665 > 60 then (none) else (if (t667.length : Int) = t665 then (laws_FnAlong.j0 k t665 t667 t671 t675 ((t671.length : Int) != t665) t650 t653 t657 t658 t659 t660 t661) else (none)))) else (none)) else (none)) else (none)) else (none)) = some r := H; have A10 := Aside0.mk A100; clear A100; have HC11 := Aside0.mk H; clear H
  go_enter Try.func5, Try.ntmps5
  go_upto_region 9 with (first | ((with_reducible refine gate_callee (f := 21) rfl ?_); refine goesL_ (some 28) rfl rfl Try.func21 kr_ rfl #[.slice A0 l0.length c0, .slice A1 l1.length c1] rfl km_ ?_; (with_reducible refine (laws_r8Long.calls _ _ l0 _ _ l1 false _ ?side1 ?side2 ?side3 ?side4 A3.out).mono ?_); (case side1 => repeat (first | exact HR0.out | (with_reducible first | refine Kd.C_alloc ?_ _ | refine Kd.C_drewN ?_ _ | refine Kd.C_drew ?_))); (case side2 => exact HC0.out); (case side3 => repeat (first | exact HR1.out | (with_reducible first | refine Kd.C_alloc ?_ _ | refine Kd.C_drewN ?_ _ | refine Kd.C_drew ?_))); (case side4 => exact HC1.out); rintro e w' ⟨rfl, ⟨nd, rfl⟩⟩; refine ⟨_, rfl, ?_⟩) | ((with_reducible refine gate_callee (f := 22) rfl ?_); refine goesL_ (some 30) rfl rfl Try.func22 kr_ rfl #[.slice A0 l0.length c0] rfl km_ ?_; (with_reducible refine (spec_R8Ground.calls k _ _ l0 t650 t653 _ ?side1 ?side2 A5.out).mono ?_); (case side1 => repeat (first | exact HR0.out | (with_reducible first | refine Kd.C_alloc ?_ _ | refine Kd.C_drewN ?_ _ | refine Kd.C_drew ?_))); (case side2 => exact HC0.out); rintro e w12 ⟨v651, v654, rfl, ho0, ho1, hb⟩; refine ⟨_, rfl, ?_⟩; have n0_ := Aside0.mk (Kd.R_lower ho0 (below_size (kh0_ HB.out))); have n1_ := Aside0.mk (Kd.S_lower ho1 (below_size (kh0_ HB.out))); have n2_ := Aside0.mk (below_step (kh0_ HB.out) hb); clear HB; have HO652 := n0_; have HO655 := n1_; have HB := n2_; clear n0_ n1_ n2_; (try clear hb hb2 hk hi ho0 ho1)) | ((with_reducible refine gate_dst (N := 5) rfl ?_); (try (refine gate_guard (by rfl) ?_; dsimp only)); refine box_event (by rfl) (N := 5) (by rfl) (cs := #[.slice none 0 0, .slice none 0 0]) (t := 31) kg_ ?_; intro gb656 hg w13 hbox hb; have n0_ := Aside0.mk (Kd.R_below (by (with_reducible repeat (first | apply Kd.R_alloc | apply Kd.R_drewN | apply Kd.R_drew)); exact HO652.out) hb); have n1_ := Aside0.mk (Kd.S_below (by (with_reducible repeat (first | apply Kd.S_alloc | apply Kd.S_drewN | apply Kd.S_drew)); exact HO655.out) hb); have n2_ := Aside0.mk (below_step (kh0_ HB.out) hb); have n3_ := Aside0.mk (hbox); have n4_ := kw_ (w := w) hg (kh0_ HB.out); have n5_ := kw_ (w := w) hg (kh0_ HB.out); clear HO652; clear HO655; clear HB; have HO652 := n0_; have HO655 := n1_; have HB := n2_; have BK656 := n3_; have GW656 := n4_; have GE656 := n5_; clear n0_ n1_ n2_ n3_ n4_ n5_; clear hb hbox hg; obtain ⟨Ao14, co14, eo14⟩ := Kd.R_slice HO652.out; subst eo14; obtain ⟨hcz15_0, hcz15_1, hfz15_0, hfz15_1⟩ := cl2_ BK656.out; obtain ⟨Ao16, co16, eo16⟩ := Kd.S_slice HO655.out; subst eo16) | ((with_reducible refine gate_callee (f := 23) rfl ?_); refine goesL_ (some 32) rfl rfl Try.func23 kr_ rfl #[.slice A1 l1.length c1] rfl km_ ?_; (with_reducible refine (spec_R8Axis.calls k _ _ l1 t657 t658 t659 t660 t661 _ ?side1 ?side2 A6.out).mono ?_); (case side1 => exact Kd.C_below HR1.out (ke_ HB.out)); (case side2 => exact HC1.out); rintro e w17 ⟨v662, rfl, ho0, hb⟩; refine ⟨_, rfl, ?_⟩; have n0_ := Aside0.mk (Kd.R_below (by (with_reducible repeat (first | apply Kd.R_alloc | apply Kd.R_drewN | apply Kd.R_drew)); exact (Kd.R_mono (Kd.R_far (p := ⟨gb656, 1, none⟩) (Kd.R_far (p := ⟨gb656, 0, none⟩) (Kd.R_types HO652.out BK656.out (by decide)) (fun _ hk => hk.2) (.slice Ao14 t650.length co14)) (fun _ hk => hk.2) (.slice Ao16 t653.length co16)) (fun _ h_ => h_.1))) hb); have n1_ := Aside0.mk (Kd.S_below (by (with_reducible repeat (first | apply Kd.S_alloc | apply Kd.S_drewN | apply Kd.S_drew)); exact (Kd.S_mono (Kd.S_far (p := ⟨gb656, 1, none⟩) (Kd.S_far (p := ⟨gb656, 0, none⟩) (Kd.S_types HO655.out BK656.out (by decide)) (fun _ hk => hk.2) (.slice Ao14 t650.length co14)) (fun _ hk => hk.2) (.slice Ao16 t653.length co16)) (fun _ h_ => h_.1))) hb); have n2_ := Aside0.mk (Kd.R_lower ho0 (below_size (ke_ HB.out))); have n3_ := Aside0.mk (blk_below (g := gb656) (o := .cells #[.slice Ao14 t650.length co14, .slice Ao16 t653.length co16] 31 (0, 0)) (by (with_reducible repeat (first | refine blk_drewN ?_ _ | refine blk_drew ?_ | refine blk_alloc ?_ _)); refine blk_put (cs := #[.slice Ao14 t650.length co14, .slice none 0 0]) ?_ 1 _ rfl; (with_reducible repeat (first | refine blk_drewN ?_ _ | refine blk_drew ?_ | refine blk_alloc ?_ _)); refine blk_put (cs := #[.slice none 0 0, .slice none 0 0]) ?_ 0 _ rfl; (with_reducible repeat (first | refine blk_drewN ?_ _ | refine blk_drew ?_ | refine blk_alloc ?_ _)); exact BK656.out) hb); have n4_ := Aside0.mk (below_step (ke_ HB.out) hb); clear HO652; clear HO655; clear BK656; clear HB; have HO652 := n0_; have HO655 := n1_; have HO663 := n2_; have BK656 := n3_; have HB := n4_; clear n0_ n1_ n2_ n3_ n4_; (try clear hb hb2 hk hi ho0)) | ((with_reducible refine gate_dst (N := 6) rfl ?_); (try (refine gate_guard (by rfl) ?_; dsimp only)); refine box_event (by rfl) (N := 6) (by rfl) (cs := #[.int .i64 0, .int .i64 0, .int .i64 0, .int .i64 0, .slice none 0 0]) (t := 47) kg_ ?_; intro gb664 hg w18 hbox hb; have n0_ := Aside0.mk (Kd.R_below (by (with_reducible repeat (first | apply Kd.R_alloc | apply Kd.R_drewN | apply Kd.R_drew)); exact HO652.out) hb); have n1_ := Aside0.mk (Kd.S_below (by (with_reducible repeat (first | apply Kd.S_alloc | apply Kd.S_drewN | apply Kd.S_drew)); exact HO655.out) hb); have n2_ := Aside0.mk (Kd.R_below (by (with_reducible repeat (first | apply Kd.R_alloc | apply Kd.R_drewN | apply Kd.R_drew)); exact HO663.out) hb); have n3_ := Aside0.mk (blk_below (kb0_ BK656.out) hb); have n4_ := Aside0.mk (below_step (ke_ HB.out) hb); have n5_ := Aside0.mk (hbox); have n6_ := kw_ (w := w) hg (ke_ HB.out); have n7_ := kw_ (w := w) hg (ke_ HB.out); have n8_ := kn_ hg (kb0_ BK656.out); have n9_ := Aside0.mk (Ne.symm n8_.out); clear HO652; clear HO655; clear HO663; clear BK656; clear HB; have HO652 := n0_; have HO655 := n1_; have HO663 := n2_; have BK656 := n3_; have HB := n4_; have BK664 := n5_; have GW664 := n6_; have GE664 := n7_; have NB656_664 := n8_; have NB664_656 := n9_; clear n0_ n1_ n2_ n3_ n4_ n5_ n6_ n7_ n8_ n9_; clear hb hbox hg; have hnb19 := NB664_656.out; have hnc19 := NB656_664.out; obtain ⟨hcz20_0, hcz20_1, hcz20_2, hcz20_3, hcz20_4, hfz20_0, hfz20_1, hfz20_2, hfz20_3, hfz20_4⟩ := cl5_ BK664.out; obtain ⟨Ao21, co21, eo21⟩ := Kd.R_slice HO663.out; subst eo21) | ((with_reducible refine gate_callee (f := 24) rfl ?_); refine goesL_ (some 35) rfl rfl Try.func24 kr_ rfl #[.agg #[.int .i64 t657, .int .i64 t658, .int .i64 t659, .int .i64 t660, .slice Ao21 t661.length co21]] rfl km_ ?_; (with_reducible refine (impl_RingsOf.calls k t657 t658 t659 t660 _ _ t661 t665 t666 _ ?side1 ?side2 A7.out).mono ?_); (case side1 => refine (Kd.R_reads' (e := 124) (base := w.heap.size) (ok := fun k_ => True) (n := t661.length) (c := co21) ?_).2.2; exact (by (with_reducible repeat (first | apply Kd.R_alloc | apply Kd.R_drewN | apply Kd.R_drew)); exact (Kd.R_mono (Kd.R_far (p := ⟨gb664, 4, none⟩) (Kd.R_far (p := ⟨gb664, 3, none⟩) (Kd.R_far (p := ⟨gb664, 2, none⟩) (Kd.R_far (p := ⟨gb664, 1, none⟩) (Kd.R_far (p := ⟨gb664, 0, none⟩) (Kd.R_types HO663.out BK664.out (by decide)) (fun _ hk => hk.2) (.int .i64 t657)) (fun _ hk => hk.2) (.int .i64 t658)) (fun _ hk => hk.2) (.int .i64 t659)) (fun _ hk => hk.2) (.int .i64 t660)) (fun _ hk => hk.2) (.slice Ao21 t661.length co21)) (fun _ h_ => h_.1)))); (case side2 => exact (Kd.R_reads' HO663.out).2.1); rintro e w22 ⟨rfl, hb⟩; refine ⟨_, rfl, ?_⟩; have n0_ := Aside0.mk (Kd.R_below (by (with_reducible repeat (first | apply Kd.R_alloc | apply Kd.R_drewN | apply Kd.R_drew)); exact (Kd.R_mono (Kd.R_far (p := ⟨gb664, 4, none⟩) (Kd.R_far (p := ⟨gb664, 3, none⟩) (Kd.R_far (p := ⟨gb664, 2, none⟩) (Kd.R_far (p := ⟨gb664, 1, none⟩) (Kd.R_far (p := ⟨gb664, 0, none⟩) (Kd.R_types HO652.out BK664.out (by decide)) (fun _ hk => hk.2) (.int .i64 t657)) (fun _ hk => hk.2) (.int .i64 t658)) (fun _ hk => hk.2) (.int .i64 t659)) (fun _ hk => hk.2) (.int .i64 t660)) (fun _ hk => hk.2) (.slice Ao21 t661.length co21)) (fun _ h_ => h_.1))) hb); have n1_ := Aside0.mk (Kd.S_below (by (with_reducible repeat (first | apply Kd.S_alloc | apply Kd.S_drewN | apply Kd.S_drew)); exact (Kd.S_mono (Kd.S_far (p := ⟨gb664, 4, none⟩) (Kd.S_far (p := ⟨gb664, 3, none⟩) (Kd.S_far (p := ⟨gb664, 2, none⟩) (Kd.S_far (p := ⟨gb664, 1, none⟩) (Kd.S_far (p := ⟨gb664, 0, none⟩) (Kd.S_types HO655.out BK664.out (by decide)) (fun _ hk => hk.2) (.int .i64 t657)) (fun _ hk => hk.2) (.int .i64 t658)) (fun _ hk => hk.2) (.int .i64 t659)) (fun _ hk => hk.2) (.int .i64 t660)) (fun _ hk => hk.2) (.slice Ao21 t661.length co21)) (fun _ h_ => h_.1))) hb); have n2_ := Aside0.mk (Kd.R_below (by (with_reducible repeat (first | apply Kd.R_alloc | apply Kd.R_drewN | apply Kd.R_drew)); exact (Kd.R_mono (Kd.R_far (p := ⟨gb664, 4, none⟩) (Kd.R_far (p := ⟨gb664, 3, none⟩) (Kd.R_far (p := ⟨gb664, 2, none⟩) (Kd.R_far (p := ⟨gb664, 1, none⟩) (Kd.R_far (p := ⟨gb664, 0, none⟩) (Kd.R_types HO663.out BK664.out (by decide)) (fun _ hk => hk.2) (.int .i64 t657)) (fun _ hk => hk.2) (.int .i64 t658)) (fun _ hk => hk.2) (.int .i64 t659)) (fun _ hk => hk.2) (.int .i64 t660)) (fun _ hk => hk.2) (.slice Ao21 t661.length co21)) (fun _ h_ => h_.1))) hb); have n3_ := Aside0.mk (blk_below (kb1_ BK656.out NB656_664.out) hb); have n4_ := Aside0.mk (blk_below (g := gb664) (o := .cells #[.int .i64 t657, .int .i64 t658, .int .i64 t659, .int .i64 t660, .slice Ao21 t661.length co21] 47 (0, 0)) (by (with_reducible repeat (first | refine blk_drewN ?_ _ | refine blk_drew ?_ | refine blk_alloc ?_ _)); refine blk_put (cs := #[.int .i64 t657, .int .i64 t658, .int .i64 t659, .int .i64 t660, .slice none 0 0]) ?_ 4 _ rfl; (with_reducible repeat (first | refine blk_drewN ?_ _ | refine blk_drew ?_ | refine blk_alloc ?_ _)); refine blk_put (cs := #[.int .i64 t657, .int .i64 t658, .int .i64 t659, .int .i64 0, .slice none 0 0]) ?_ 3 _ rfl; (with_reducible repeat (first | refine blk_drewN ?_ _ | refine blk_drew ?_ | refine blk_alloc ?_ _)); refine blk_put (cs := #[.int .i64 t657, .int .i64 t658, .int .i64 0, .int .i64 0, .slice none 0 0]) ?_ 2 _ rfl; (with_reducible repeat (first | refine blk_drewN ?_ _ | refine blk_drew ?_ | refine blk_alloc ?_ _)); refine blk_put (cs := #[.int .i64 t657, .int .i64 0, .int .i64 0, .int .i64 0, .slice none 0 0]) ?_ 1 _ rfl; (with_reducible repeat (first | refine blk_drewN ?_ _ | refine blk_drew ?_ | refine blk_alloc ?_ _)); refine blk_put (cs := #[.int .i64 0, .int .i64 0, .int .i64 0, .int .i64 0, .slice none 0 0]) ?_ 0 _ rfl; (with_reducible repeat (first | refine blk_drewN ?_ _ | refine blk_drew ?_ | refine blk_alloc ?_ _)); exact BK664.out) hb); have n5_ := Aside0.mk (below_step (ke_ HB.out) hb); clear HO652; clear HO655; clear HO663; clear BK656; clear BK664; clear HB; have HO652 := n0_; have HO655 := n1_; have HO663 := n2_; have BK656 := n3_; have BK664 := n4_; have HB := n5_; clear n0_ n1_ n2_ n3_ n4_ n5_; (try clear hb hb2 hk hi); obtain ⟨hcz23_0, hcz23_1, hfz23_0, hfz23_1⟩ := cl2_ BK656.out; obtain ⟨hcz24_0, hcz24_1, hcz24_2, hcz24_3, hcz24_4, hfz24_0, hfz24_1, hfz24_2, hfz24_3, hfz24_4⟩ := cl5_ BK664.out) | ((with_reducible refine gate_callee (f := 25) rfl ?_); refine goesL_ (some 41) rfl rfl Try.func25 kr_ rfl #[.agg #[.slice Ao14 t650.length co14, .slice Ao16 t653.length co16], .agg #[.int .i64 t657, .int .i64 t658, .int .i64 t659, .int .i64 t660, .slice Ao21 t661.length co21]] rfl km_ ?_; (with_reducible refine (impl_ClassesAlong.calls k _ _ t650 _ _ t653 t657 t658 t659 t660 _ _ t661 t667 t670 _ ?side1 ?side2 ?side3 ?side4 ?side5 ?side6 A8.out).mono ?_); (case side1 => repeat (first | exact (Kd.R_reads' HO652.out).2.2 | (with_reducible first | refine Kd.C_alloc ?_ _ | refine Kd.C_drewN ?_ _ | refine Kd.C_drew ?_))); (case side2 => exact (Kd.R_reads' HO652.out).2.1); (case side3 => repeat (first | exact (Kd.S_reads' HO655.out).2.2 | (with_reducible first | refine Kd.C_alloc ?_ _ | refine Kd.C_drewN ?_ _ | refine Kd.C_drew ?_))); (case side4 => exact (Kd.S_reads' HO655.out).2.1); (case side5 => repeat (first | exact (Kd.R_reads' HO663.out).2.2 | (with_reducible first | refine Kd.C_alloc ?_ _ | refine Kd.C_drewN ?_ _ | refine Kd.C_drew ?_))); (case side6 => exact (Kd.R_reads' HO663.out).2.1); rintro e w25 ⟨v668, rfl, ho0, hb⟩; refine ⟨_, rfl, ?_⟩; have n0_ := Aside0.mk (Kd.R_elder' (by (with_reducible repeat (first | apply Kd.R_alloc | apply Kd.R_drewN | apply Kd.R_drew)); exact HO652.out) (Kd.R_base ho0) hb); have n1_ := Aside0.mk (Kd.S_elder' (by (with_reducible repeat (first | apply Kd.S_alloc | apply Kd.S_drewN | apply Kd.S_drew)); exact HO655.out) (Kd.R_base ho0) hb); have n2_ := Aside0.mk (Kd.R_below (by (with_reducible repeat (first | apply Kd.R_alloc | apply Kd.R_drewN | apply Kd.R_drew)); exact HO663.out) hb); have n3_ := Aside0.mk (Kd.R_lower (Kd.R_new' ho0 (Kd.R_lt (by (with_reducible repeat (first | apply Kd.R_alloc | apply Kd.R_drewN | apply Kd.R_drew)); exact HO652.out))) (below_size (ke_ HB.out))); have n4_ := Aside0.mk (blk_below (kb0_ BK656.out) hb); have n5_ := Aside0.mk (blk_below (kb0_ BK664.out) hb); have n6_ := Aside0.mk (below_step (ke_ HB.out) hb); clear HO652; clear HO655; clear HO663; clear BK656; clear BK664; clear HB; have HO652 := n0_; have HO655 := n1_; have HO663 := n2_; have HO669 := n3_; have BK656 := n4_; have BK664 := n5_; have HB := n6_; clear n0_ n1_ n2_ n3_ n4_ n5_ n6_; (try clear hb hb2 hk hi ho0); obtain ⟨hcz26_0, hcz26_1, hfz26_0, hfz26_1⟩ := cl2_ BK656.out; obtain ⟨hcz27_0, hcz27_1, hcz27_2, hcz27_3, hcz27_4, hfz27_0, hfz27_1, hfz27_2, hfz27_3, hfz27_4⟩ := cl5_ BK664.out) | ((with_reducible refine gate_callee (f := 26) rfl ?_); refine goesL_ (some 47) rfl rfl Try.func26 kr_ rfl #[.agg #[.slice Ao14 t650.length co14, .slice Ao16 t653.length co16], .agg #[.int .i64 t657, .int .i64 t658, .int .i64 t659, .int .i64 t660, .slice Ao21 t661.length co21]] rfl km_ ?_; (with_reducible refine (impl_PrognosisOf.calls k _ _ t650 _ _ t653 t657 t658 t659 t660 _ _ t661 t671 t674 _ ?side1 ?side2 ?side3 ?side4 ?side5 ?side6 A9.out).mono ?_); (case side1 => repeat (first | exact (Kd.R_reads' HO652.out).2.2 | (with_reducible first | refine Kd.C_alloc ?_ _ | refine Kd.C_drewN ?_ _ | refine Kd.C_drew ?_))); (case side2 => exact (Kd.R_reads' HO652.out).2.1); (case side3 => repeat (first | exact (Kd.S_reads' HO655.out).2.2 | (with_reducible first | refine Kd.C_alloc ?_ _ | refine Kd.C_drewN ?_ _ | refine Kd.C_drew ?_))); (case side4 => exact (Kd.S_reads' HO655.out).2.1); (case side5 => repeat (first | exact (Kd.R_reads' HO663.out).2.2 | (with_reducible first | refine Kd.C_alloc ?_ _ | refine Kd.C_drewN ?_ _ | refine Kd.C_drew ?_))); (case side6 => exact (Kd.R_reads' HO663.out).2.1); rintro e w28 ⟨v672, rfl, ho0, hb⟩; refine ⟨_, rfl, ?_⟩; have n0_ := Aside0.mk (Kd.R_elder' (by (with_reducible repeat (first | apply Kd.R_alloc | apply Kd.R_drewN | apply Kd.R_drew)); exact HO652.out) (Kd.R_base ho0) hb); have n1_ := Aside0.mk (Kd.S_elder' (by (with_reducible repeat (first | apply Kd.S_alloc | apply Kd.S_drewN | apply Kd.S_drew)); exact HO655.out) (Kd.R_base ho0) hb); have n2_ := Aside0.mk (Kd.R_below (by (with_reducible repeat (first | apply Kd.R_alloc | apply Kd.R_drewN | apply Kd.R_drew)); exact HO663.out) hb); have n3_ := Aside0.mk (Kd.R_elder' (by (with_reducible repeat (first | apply Kd.R_alloc | apply Kd.R_drewN | apply Kd.R_drew)); exact HO669.out) (Kd.R_base ho0) hb); have n4_ := Aside0.mk (Kd.R_lower (Kd.R_new' (Kd.R_new' ho0 (Kd.R_lt (by (with_reducible repeat (first | apply Kd.R_alloc | apply Kd.R_drewN | apply Kd.R_drew)); exact HO652.out))) (Kd.R_lt (by (with_reducible repeat (first | apply Kd.R_alloc | apply Kd.R_drewN | apply Kd.R_drew)); exact HO669.out))) (below_size (ke_ HB.out))); have n5_ := Aside0.mk (blk_below (kb0_ BK656.out) hb); have n6_ := Aside0.mk (blk_below (kb0_ BK664.out) hb); have n7_ := Aside0.mk (below_step (ke_ HB.out) hb); clear HO652; clear HO655; clear HO663; clear HO669; clear BK656; clear BK664; clear HB; have HO652 := n0_; have HO655 := n1_; have HO663 := n2_; have HO669 := n3_; have HO673 := n4_; have BK656 := n5_; have BK664 := n6_; have HB := n7_; clear n0_ n1_ n2_ n3_ n4_ n5_ n6_ n7_; (try clear hb hb2 hk hi ho0); obtain ⟨hcz29_0, hcz29_1, hfz29_0, hfz29_1⟩ := cl2_ BK656.out; obtain ⟨hcz30_0, hcz30_1, hcz30_2, hcz30_3, hcz30_4, hfz30_0, hfz30_1, hfz30_2, hfz30_3, hfz30_4⟩ := cl5_ BK664.out) | ((with_reducible refine gate_callee (f := 27) rfl ?_); refine goesL_ (some 53) rfl rfl Try.func27 kr_ rfl #[.agg #[.slice Ao14 t650.length co14, .slice Ao16 t653.length co16], .agg #[.int .i64 t657, .int .i64 t658, .int .i64 t659, .int .i64 t660, .slice Ao21 t661.length co21]] rfl km_ ?_; (with_reducible refine (impl_MixedRings.calls k _ _ t650 _ _ t653 t657 t658 t659 t660 _ _ t661 t675 t678 _ ?side1 ?side2 ?side3 ?side4 ?side5 ?side6 A10.out).mono ?_); (case side1 => repeat (first | exact (Kd.R_reads' HO652.out).2.2 | (with_reducible first | refine Kd.C_alloc ?_ _ | refine Kd.C_drewN ?_ _ | refine Kd.C_drew ?_))); (case side2 => exact (Kd.R_reads' HO652.out).2.1); (case side3 => repeat (first | exact (Kd.S_reads' HO655.out).2.2 | (with_reducible first | refine Kd.C_alloc ?_ _ | refine Kd.C_drewN ?_ _ | refine Kd.C_drew ?_))); (case side4 => exact (Kd.S_reads' HO655.out).2.1); (case side5 => repeat (first | exact (Kd.R_reads' HO663.out).2.2 | (with_reducible first | refine Kd.C_alloc ?_ _ | refine Kd.C_drewN ?_ _ | refine Kd.C_drew ?_))); (case side6 => exact (Kd.R_reads' HO663.out).2.1); rintro e w31 ⟨v676, rfl, ho0, hb⟩; refine ⟨_, rfl, ?_⟩; have n0_ := Aside0.mk (Kd.R_elder' (by (with_reducible repeat (first | apply Kd.R_alloc | apply Kd.R_drewN | apply Kd.R_drew)); exact HO652.out) (Kd.R_base ho0) hb); have n1_ := Aside0.mk (Kd.S_elder' (by (with_reducible repeat (first | apply Kd.S_alloc | apply Kd.S_drewN | apply Kd.S_drew)); exact HO655.out) (Kd.R_base ho0) hb); have n2_ := Aside0.mk (Kd.R_below (by (with_reducible repeat (first | apply Kd.R_alloc | apply Kd.R_drewN | apply Kd.R_drew)); exact HO663.out) hb); have n3_ := Aside0.mk (Kd.R_elder' (by (with_reducible repeat (first | apply Kd.R_alloc | apply Kd.R_drewN | apply Kd.R_drew)); exact HO669.out) (Kd.R_base ho0) hb); have n4_ := Aside0.mk (Kd.R_elder' (by (with_reducible repeat (first | apply Kd.R_alloc | apply Kd.R_drewN | apply Kd.R_drew)); exact HO673.out) (Kd.R_base ho0) hb); have n5_ := Aside0.mk (Kd.R_lower (Kd.R_new' (Kd.R_new' (Kd.R_new' ho0 (Kd.R_lt (by (with_reducible repeat (first | apply Kd.R_alloc | apply Kd.R_drewN | apply Kd.R_drew)); exact HO652.out))) (Kd.R_lt (by (with_reducible repeat (first | apply Kd.R_alloc | apply Kd.R_drewN | apply Kd.R_drew)); exact HO669.out))) (Kd.R_lt (by (with_reducible repeat (first | apply Kd.R_alloc | apply Kd.R_drewN | apply Kd.R_drew)); exact HO673.out))) (below_size (ke_ HB.out))); have n6_ := Aside0.mk (blk_below (kb0_ BK656.out) hb); have n7_ := Aside0.mk (blk_below (kb0_ BK664.out) hb); have n8_ := Aside0.mk (below_step (ke_ HB.out) hb); clear HO652; clear HO655; clear HO663; clear HO669; clear HO673; clear BK656; clear BK664; clear HB; have HO652 := n0_; have HO655 := n1_; have HO663 := n2_; have HO669 := n3_; have HO673 := n4_; have HO677 := n5_; have BK656 := n6_; have BK664 := n7_; have HB := n8_; clear n0_ n1_ n2_ n3_ n4_ n5_ n6_ n7_ n8_; (try clear hb hb2 hk hi ho0)))
  (try simp only [Act.put, qa_, qz_, qs_])
  go_cut [89] (fun v89 wc => ∃ (kq : Nat) (x89_10 : Bool), v89 = .bool x89_10 ∧ Aside0 (laws_FnAlong.j0 kq t665 t667 t671 t675 x89_10 t650 t653 t657 t658 t659 t660 t661 = some r) ∧ Aside0 (kq ≤ k) ∧ Aside0 (Kd.R (Kd.int .i64) 2 wc w.heap.size (fun k_ => some k_ ≠ (v672 : Value).ownBlock ∧ some k_ ≠ (v676 : Value).ownBlock ∧ some k_ ≠ ((.slice Ao14 t650.length co14) : Value).ownBlock) v668 t667) ∧ Aside0 (Kd.R (Kd.int .i64) 2 wc w.heap.size (fun k_ => some k_ ≠ (v668 : Value).ownBlock ∧ some k_ ≠ (v676 : Value).ownBlock ∧ some k_ ≠ ((.slice Ao14 t650.length co14) : Value).ownBlock) v672 t671) ∧ Aside0 (Kd.R (Kd.int .i64) 2 wc w.heap.size (fun k_ => some k_ ≠ (v668 : Value).ownBlock ∧ some k_ ≠ (v672 : Value).ownBlock ∧ some k_ ≠ ((.slice Ao14 t650.length co14) : Value).ownBlock) v676 t675) ∧ Aside0 (Kd.R (Kd.int .i64) 2 wc w.heap.size (fun k_ => some k_ ≠ (v668 : Value).ownBlock ∧ some k_ ≠ (v672 : Value).ownBlock ∧ some k_ ≠ (v676 : Value).ownBlock) (.slice Ao14 t650.length co14) t650) ∧ Aside0 (Kd.S k59 59 wc w.heap.size (fun k_ => some k_ ≠ (v668 : Value).ownBlock ∧ some k_ ≠ (v672 : Value).ownBlock ∧ some k_ ≠ (v676 : Value).ownBlock ∧ some k_ ≠ ((.slice Ao14 t650.length co14) : Value).ownBlock) (.slice Ao16 t653.length co16) t653) ∧ Aside0 (Kd.R k124 124 wc w.heap.size (fun _ => True) (.slice Ao21 t661.length co21) t661) ∧ Aside0 (wc.heap[gb656]? = some (.cells #[(.slice Ao14 t650.length co14), (.slice Ao16 t653.length co16)] 31 (0, 0))) ∧ Aside0 (wc.heap[gb664]? = some (.cells #[.int .i64 t657, .int .i64 t658, .int .i64 t659, .int .i64 t660, (.slice Ao21 t661.length co21)] 47 (0, 0))) ∧ Aside0 (Below w.heap.size w wc))
  case first =>
   have H := HC11.out; clear HC11
   by_cases c32 : t666 = true
   ·subst c32; (have H1 : (if t670 = true then (if t674 = true then (if t678 = true then (if t665 < 1 then (none) else (if t665 > 60 then (none) else (if (t667.length : Int) = t665 then (laws_FnAlong.j0 k t665 t667 t671 t675 ((t671.length : Int) != t665) t650 t653 t657 t658 t659 t660 t661) else (none)))) else (none)) else (none)) else (none)) = some r := by rw [if_pos rfl] at H; exact H); clear H; have H := H1; clear H1
    by_cases c33 : t670 = true
    ·subst c33; (have H1 : (if t674 = true then (if t678 = true then (if t665 < 1 then (none) else (if t665 > 60 then (none) else (if (t667.length : Int) = t665 then (laws_FnAlong.j0 k t665 t667 t671 t675 ((t671.length : Int) != t665) t650 t653 t657 t658 t659 t660 t661) else (none)))) else (none)) else (none)) = some r := by rw [if_pos rfl] at H; exact H); clear H; have H := H1; clear H1
     by_cases c34 : t674 = true
     ·subst c34; (have H1 : (if t678 = true then (if t665 < 1 then (none) else (if t665 > 60 then (none) else (if (t667.length : Int) = t665 then (laws_FnAlong.j0 k t665 t667 t671 t675 ((t671.length : Int) != t665) t650 t653 t657 t658 t659 t660 t661) else (none)))) else (none)) = some r := by rw [if_pos rfl] at H; exact H); clear H; have H := H1; clear H1
      by_cases c35 : t678 = true
      ·subst c35; (have H1 : (if t665 < 1 then (none) else (if t665 > 60 then (none) else (if (t667.length : Int) = t665 then (laws_FnAlong.j0 k t665 t667 t671 t675 ((t671.length : Int) != t665) t650 t653 t657 t658 t659 t660 t661) else (none)))) = some r := by rw [if_pos rfl] at H; exact H); clear H; have H := H1; clear H1
       by_cases c36 : t665 < 1
       ·rw [if_pos c36] at H; exact absurd H (by simp)
       ·rw [if_neg c36] at H; have c36b0 : decide (t665 < 1) = false := decide_eq_false c36; clear c36
        (first | rw [c36b0] | (simp only [i64_w, i32_w]; rw [c36b0]) | skip)
        by_cases c37 : t665 > 60
        ·rw [if_pos c37] at H; exact absurd H (by simp)
        ·rw [if_neg c37] at H; have c37b0 : decide (60 < t665) = false := decide_eq_false c37; clear c37
         by_cases c38 : (t667.length : Int) = t665
         ·rw [if_pos c38] at H; have c38b0 : ((t667.length : Int) == t665) = true := beq_iff_eq.mpr c38; have c38b1 : ((t667.length : Int) != t665) = false := bne_eq_false_iff_eq.mpr c38; clear c38; have H' := Aside0.mk H; clear H; obtain ⟨Ao39, co39, eo39⟩ := Kd.R_slice HO669.out; subst eo39; obtain ⟨Ao40, co40, eo40⟩ := Kd.R_slice HO673.out; subst eo40
          go_wp2
          go_meet
          case rel => exact ⟨_, (((t671.length : Int) != t665)), ks_, H', ⟨by first | omega | exact Nat.le_refl _⟩, ⟨by (with_reducible repeat (first | apply Kd.R_alloc | apply Kd.R_drewN | apply Kd.R_drew)); exact Kd.R_mono HO669.out (fun _ hk => ⟨hk.1.2, ⟨hk.2, hk.1.1.2⟩⟩)⟩, ⟨by (with_reducible repeat (first | apply Kd.R_alloc | apply Kd.R_drewN | apply Kd.R_drew)); exact Kd.R_mono HO673.out (fun _ hk => ⟨hk.1.2, ⟨hk.2, hk.1.1.2⟩⟩)⟩, ⟨by (with_reducible repeat (first | apply Kd.R_alloc | apply Kd.R_drewN | apply Kd.R_drew)); exact Kd.R_mono HO677.out (fun _ hk => ⟨hk.1.2, ⟨hk.2, hk.1.1.2⟩⟩)⟩, ⟨by (with_reducible repeat (first | apply Kd.R_alloc | apply Kd.R_drewN | apply Kd.R_drew)); exact Kd.R_mono HO652.out (fun _ hk => ⟨hk.1.1.2, ⟨hk.1.2, hk.2⟩⟩)⟩, ⟨by (with_reducible repeat (first | apply Kd.S_alloc | apply Kd.S_drewN | apply Kd.S_drew)); exact Kd.S_mono HO655.out (fun _ hk => ⟨hk.1.1.2, ⟨hk.1.2, ⟨hk.2, hk.1.1.1⟩⟩⟩)⟩, ⟨by (with_reducible repeat (first | apply Kd.R_alloc | apply Kd.R_drewN | apply Kd.R_drew)); exact HO663.out⟩, ⟨kb0_ BK656.out⟩, ⟨kb0_ BK664.out⟩, ⟨ke_ HB.out⟩⟩
         ·rw [if_neg c38] at H; exact absurd H (by simp)
      ·replace c35 := Bool.eq_false_iff.mpr c35; subst c35; (have H1 : (none) = some r := by rw [if_neg (show ¬ (false = true) by decide)] at H; exact H); clear H; have H := H1; clear H1; exact absurd H (by simp)
     ·replace c34 := Bool.eq_false_iff.mpr c34; subst c34; (have H1 : (none) = some r := by rw [if_neg (show ¬ (false = true) by decide)] at H; exact H); clear H; have H := H1; clear H1; exact absurd H (by simp)
    ·replace c33 := Bool.eq_false_iff.mpr c33; subst c33; (have H1 : (none) = some r := by rw [if_neg (show ¬ (false = true) by decide)] at H; exact H); clear H; have H := H1; clear H1; exact absurd H (by simp)
   ·replace c32 := Bool.eq_false_iff.mpr c32; subst c32; (have H1 : (none) = some r := by rw [if_neg (show ¬ (false = true) by decide)] at H; exact H); clear H; have H := H1; clear H1; exact absurd H (by simp)
  case rest =>
   clear HC11; (try clear c1); (try clear c2); (try clear p2); (try clear c3); (try clear c4); (try clear c5); (try clear c19); (try clear c21); (try clear c22); (try clear c23); (try clear c24); (try clear c25); (try clear c26); (try clear c27); (try clear c32); (try clear c33); (try clear c34); (try clear c35); (try clear c36); (try clear c36b0); (try clear c37); (try clear c37b0); (try clear c38); (try clear c38b0); (try clear c38b1); (try clear hcz15_0); (try clear hcz15_1); (try clear hcz20_0); (try clear hcz20_1); (try clear hcz20_2); (try clear hcz20_3); (try clear hcz20_4); (try clear hcz23_0); (try clear hcz23_1); (try clear hcz24_0); (try clear hcz24_1); (try clear hcz24_2); (try clear hcz24_3); (try clear hcz24_4); (try clear hcz26_0); (try clear hcz26_1); (try clear hcz27_0); (try clear hcz27_1); (try clear hcz27_2); (try clear hcz27_3); (try clear hcz27_4); (try clear hcz29_0); (try clear hcz29_1); (try clear hcz30_0); (try clear hcz30_1); (try clear hcz30_2); (try clear hcz30_3); (try clear hcz30_4); (try clear hfz15_0); (try clear hfz15_1); (try clear hfz20_0); (try clear hfz20_1); (try clear hfz20_2); (try clear hfz20_3); (try clear hfz20_4); (try clear hfz23_0); (try clear hfz23_1); (try clear hfz24_0); (try clear hfz24_1); (try clear hfz24_2); (try clear hfz24_3); (try clear hfz24_4); (try clear hfz26_0); (try clear hfz26_1); (try clear hfz27_0); (try clear hfz27_1); (try clear hfz27_2); (try clear hfz27_3); (try clear hfz27_4); (try clear hfz29_0); (try clear hfz29_1); (try clear hfz30_0); (try clear hfz30_1); (try clear hfz30_2); (try clear hfz30_3); (try clear hfz30_4); obtain ⟨kq, x89_10, rfl, HA, HJ10, HO_9, HO_11, HO_13, HO_657000, HO_657001, HO_665004, BK656, BK664, HB⟩ := hcut
   cases kq with
   | zero => exact absurd HA.out (by simp [laws_FnAlong.j0])
   | succ kj10 =>
    have H := HA.out; clear HA; simp only [laws_FnAlong.j0] at H
    by_cases c41 : x89_10 = true
    ·subst c41; (have H1 : (none) = some r := by rw [if_pos rfl] at H; exact H); clear H; have H := H1; clear H1; exact absurd H (by simp)
    ·replace c41 := Bool.eq_false_iff.mpr c41; subst c41; (have H1 : (laws_FnAlong.l0 kj10 t665 t667 t671 t675 0 t650 t653 t657 t658 t659 t660 t661) = some r := by rw [if_neg (show ¬ (false = true) by decide)] at H; exact H); clear H; have H := H1; clear H1; have H' := Aside0.mk H; clear H
     go_wp2
     go_loopg [15] kj10 (fun kq v15 w' => ∃ (x15_2 : Int), v15 = .int .i64 x15_2 ∧ Aside0 (laws_FnAlong.l0 kq t665 t667 t671 t675 x15_2 t650 t653 t657 t658 t659 t660 t661 = some r) ∧ Aside0 (kq ≤ kj10) ∧ Aside0 (Kd.R (Kd.int .i64) 2 w' w.heap.size (fun k_ => some k_ ≠ (v672 : Value).ownBlock ∧ some k_ ≠ (v676 : Value).ownBlock ∧ some k_ ≠ ((.slice Ao14 t650.length co14) : Value).ownBlock) v668 t667) ∧ Aside0 (Kd.R (Kd.int .i64) 2 w' w.heap.size (fun k_ => some k_ ≠ (v668 : Value).ownBlock ∧ some k_ ≠ (v676 : Value).ownBlock ∧ some k_ ≠ ((.slice Ao14 t650.length co14) : Value).ownBlock) v672 t671) ∧ Aside0 (Kd.R (Kd.int .i64) 2 w' w.heap.size (fun k_ => some k_ ≠ (v668 : Value).ownBlock ∧ some k_ ≠ (v672 : Value).ownBlock ∧ some k_ ≠ ((.slice Ao14 t650.length co14) : Value).ownBlock) v676 t675) ∧ Aside0 (Kd.R (Kd.int .i64) 2 w' w.heap.size (fun k_ => some k_ ≠ (v668 : Value).ownBlock ∧ some k_ ≠ (v672 : Value).ownBlock ∧ some k_ ≠ (v676 : Value).ownBlock) (.slice Ao14 t650.length co14) t650) ∧ Aside0 (Kd.S k59 59 w' w.heap.size (fun k_ => some k_ ≠ (v668 : Value).ownBlock ∧ some k_ ≠ (v672 : Value).ownBlock ∧ some k_ ≠ (v676 : Value).ownBlock ∧ some k_ ≠ ((.slice Ao14 t650.length co14) : Value).ownBlock) (.slice Ao16 t653.length co16) t653) ∧ Aside0 (Kd.R k124 124 w' w.heap.size (fun _ => True) (.slice Ao21 t661.length co21) t661) ∧ Aside0 (w'.heap[gb656]? = some (.cells #[(.slice Ao14 t650.length co14), (.slice Ao16 t653.length co16)] 31 (0, 0))) ∧ Aside0 (w'.heap[gb664]? = some (.cells #[.int .i64 t657, .int .i64 t658, .int .i64 t659, .int .i64 t660, (.slice Ao21 t661.length co21)] 47 (0, 0))) ∧ Aside0 (Below w.heap.size w w'))
     case atStart => exact ⟨(0), ks_, H', ⟨Nat.le_refl _⟩, ⟨by (with_reducible repeat (first | apply Kd.R_alloc | apply Kd.R_drewN | apply Kd.R_drew)); exact HO_9.out⟩, ⟨by (with_reducible repeat (first | apply Kd.R_alloc | apply Kd.R_drewN | apply Kd.R_drew)); exact HO_11.out⟩, ⟨by (with_reducible repeat (first | apply Kd.R_alloc | apply Kd.R_drewN | apply Kd.R_drew)); exact HO_13.out⟩, ⟨by (with_reducible repeat (first | apply Kd.R_alloc | apply Kd.R_drewN | apply Kd.R_drew)); exact HO_657000.out⟩, ⟨by (with_reducible repeat (first | apply Kd.S_alloc | apply Kd.S_drewN | apply Kd.S_drew)); exact HO_657001.out⟩, ⟨by (with_reducible repeat (first | apply Kd.R_alloc | apply Kd.R_drewN | apply Kd.R_drew)); exact HO_665004.out⟩, ⟨kb0_ BK656.out⟩, ⟨kb0_ BK664.out⟩, ⟨ke_ HB.out⟩⟩
     case round =>
      clear H'; (try clear c1); (try clear c2); (try clear p2); (try clear c3); (try clear c4); (try clear c5); (try clear c19); (try clear c21); (try clear c22); (try clear c23); (try clear c24); (try clear c25); (try clear c26); (try clear c27); (try clear c32); (try clear c33); (try clear c34); (try clear c35); (try clear c36); (try clear c36b0); (try clear c37); (try clear c37b0); (try clear c38); (try clear c38b0); (try clear c38b1); (try clear c41); (try clear hcz15_0); (try clear hcz15_1); (try clear hcz20_0); (try clear hcz20_1); (try clear hcz20_2); (try clear hcz20_3); (try clear hcz20_4); (try clear hcz23_0); (try clear hcz23_1); (try clear hcz24_0); (try clear hcz24_1); (try clear hcz24_2); (try clear hcz24_3); (try clear hcz24_4); (try clear hcz26_0); (try clear hcz26_1); (try clear hcz27_0); (try clear hcz27_1); (try clear hcz27_2); (try clear hcz27_3); (try clear hcz27_4); (try clear hcz29_0); (try clear hcz29_1); (try clear hcz30_0); (try clear hcz30_1); (try clear hcz30_2); (try clear hcz30_3); (try clear hcz30_4); (try clear hfz15_0); (try clear hfz15_1); (try clear hfz20_0); (try clear hfz20_1); (try clear hfz20_2); (try clear hfz20_3); (try clear hfz20_4); (try clear hfz23_0); (try clear hfz23_1); (try clear hfz24_0); (try clear hfz24_1); (try clear hfz24_2); (try clear hfz24_3); (try clear hfz24_4); (try clear hfz26_0); (try clear hfz26_1); (try clear hfz27_0); (try clear hfz27_1); (try clear hfz27_2); (try clear hfz27_3); (try clear hfz27_4); (try clear hfz29_0); (try clear hfz29_1); (try clear hfz30_0); (try clear hfz30_1); (try clear hfz30_2); (try clear hfz30_3); (try clear hfz30_4); (try clear p2); obtain ⟨x15_2, rfl, HA, HK2, HO_9, HO_11, HO_13, HO_657000, HO_657001, HO_665004, BK656, BK664, HB⟩ := hrel
      cases gk with
      | zero => exact absurd HA.out (by simp [laws_FnAlong.l0])
      | succ k2 =>
       have H := HA.out; clear HA; simp only [laws_FnAlong.l0] at H
       by_cases c42 : x15_2 < t665
       ·rw [if_pos c42] at H; have c42b0 : decide (x15_2 < t665) = true := decide_eq_true c42; clear c42; replace H := Option.bind_eq_some_iff.mp H; obtain ⟨⟨t679, t680, t681, t682, t683⟩, A430, H⟩ := H; replace H : ((impl_ClassAt.f k2 t650 t653 x15_2 t680).bind fun bt685 => ((impl_WeightOf.f k2 t650 t653 x15_2 t680).bind fun bt687 => ((impl_FaceOf.f k2 t650 t653 x15_2 t680).bind fun bt689 => (if t683 = true then (if bt685.2 = true then (if bt687.2 = true then (if bt689.2 = true then (if 0 ≤ x15_2 then (if x15_2 < (t667.length : Int) then (if (rd t667 x15_2) = bt685.1 then (if x15_2 < (t671.length : Int) then (if (rd t671 x15_2) = bt687.1 then (laws_FnAlong.j2 k2 t665 t667 t671 t675 x15_2 bt689.1 ((bt689.1.length : Int) != (wrap64 ((t650.length : Int) + 1))) t650 t653 t657 t658 t659 t660 t661) else (none)) else (none)) else (none)) else (none)) else (none)) else (none)) else (none)) else (none)) else (none))))) = some r := H; have A43 := Aside0.mk A430; clear A430; replace H := Option.bind_eq_some_iff.mp H; obtain ⟨⟨t685, t686⟩, A440, H⟩ := H; replace H : ((impl_WeightOf.f k2 t650 t653 x15_2 t680).bind fun bt687 => ((impl_FaceOf.f k2 t650 t653 x15_2 t680).bind fun bt689 => (if t683 = true then (if t686 = true then (if bt687.2 = true then (if bt689.2 = true then (if 0 ≤ x15_2 then (if x15_2 < (t667.length : Int) then (if (rd t667 x15_2) = t685 then (if x15_2 < (t671.length : Int) then (if (rd t671 x15_2) = bt687.1 then (laws_FnAlong.j2 k2 t665 t667 t671 t675 x15_2 bt689.1 ((bt689.1.length : Int) != (wrap64 ((t650.length : Int) + 1))) t650 t653 t657 t658 t659 t660 t661) else (none)) else (none)) else (none)) else (none)) else (none)) else (none)) else (none)) else (none)) else (none)))) = some r := H; have A44 := Aside0.mk A440; clear A440; replace H := Option.bind_eq_some_iff.mp H; obtain ⟨⟨t687, t688⟩, A450, H⟩ := H; replace H : ((impl_FaceOf.f k2 t650 t653 x15_2 t680).bind fun bt689 => (if t683 = true then (if t686 = true then (if t688 = true then (if bt689.2 = true then (if 0 ≤ x15_2 then (if x15_2 < (t667.length : Int) then (if (rd t667 x15_2) = t685 then (if x15_2 < (t671.length : Int) then (if (rd t671 x15_2) = t687 then (laws_FnAlong.j2 k2 t665 t667 t671 t675 x15_2 bt689.1 ((bt689.1.length : Int) != (wrap64 ((t650.length : Int) + 1))) t650 t653 t657 t658 t659 t660 t661) else (none)) else (none)) else (none)) else (none)) else (none)) else (none)) else (none)) else (none)) else (none))) = some r := H; have A45 := Aside0.mk A450; clear A450; replace H := Option.bind_eq_some_iff.mp H; obtain ⟨⟨t689, t692⟩, A460, H⟩ := H; replace H : (if t683 = true then (if t686 = true then (if t688 = true then (if t692 = true then (if 0 ≤ x15_2 then (if x15_2 < (t667.length : Int) then (if (rd t667 x15_2) = t685 then (if x15_2 < (t671.length : Int) then (if (rd t671 x15_2) = t687 then (laws_FnAlong.j2 k2 t665 t667 t671 t675 x15_2 t689 ((t689.length : Int) != (wrap64 ((t650.length : Int) + 1))) t650 t653 t657 t658 t659 t660 t661) else (none)) else (none)) else (none)) else (none)) else (none)) else (none)) else (none)) else (none)) else (none)) = some r := H; have A46 := Aside0.mk A460; clear A460; have HC47 := Aside0.mk H; clear H; have hnb48 := NB664_656.out; have hnc48 := NB656_664.out; obtain ⟨hcz49_0, hcz49_1, hcz49_2, hcz49_3, hcz49_4, hfz49_0, hfz49_1, hfz49_2, hfz49_3, hfz49_4⟩ := cl5_ BK664.out
        go_upto_region 18 with (first | ((with_reducible refine gate_callee (f := 28) rfl ?_); refine goesL_ (some 98) rfl rfl Try.func28 kr_ rfl #[.agg #[.int .i64 t657, .int .i64 t658, .int .i64 t659, .int .i64 t660, .slice Ao21 t661.length co21], .int .i64 x15_2] rfl km_ ?_; (with_reducible refine (impl_PoseAt.calls k2 t657 t658 t659 t660 _ _ t661 x15_2 t679 t680 t681 t682 t683 _ ?side1 ?side2 A43.out).mono ?_); (case side1 => repeat (first | exact (Kd.R_reads' HO_665004.out).2.2 | (with_reducible first | refine Kd.C_alloc ?_ _ | refine Kd.C_drewN ?_ _ | refine Kd.C_drew ?_))); (case side2 => exact (Kd.R_reads' HO_665004.out).2.1); rintro e w50 ⟨rfl, hb⟩; refine ⟨_, rfl, ?_⟩; have n0_ := Aside0.mk (Kd.R_below (by (with_reducible repeat (first | apply Kd.R_alloc | apply Kd.R_drewN | apply Kd.R_drew)); exact HO_9.out) hb); have n1_ := Aside0.mk (Kd.R_below (by (with_reducible repeat (first | apply Kd.R_alloc | apply Kd.R_drewN | apply Kd.R_drew)); exact HO_11.out) hb); have n2_ := Aside0.mk (Kd.R_below (by (with_reducible repeat (first | apply Kd.R_alloc | apply Kd.R_drewN | apply Kd.R_drew)); exact HO_13.out) hb); have n3_ := Aside0.mk (Kd.R_below (by (with_reducible repeat (first | apply Kd.R_alloc | apply Kd.R_drewN | apply Kd.R_drew)); exact HO_657000.out) hb); have n4_ := Aside0.mk (Kd.S_below (by (with_reducible repeat (first | apply Kd.S_alloc | apply Kd.S_drewN | apply Kd.S_drew)); exact HO_657001.out) hb); have n5_ := Aside0.mk (Kd.R_below (by (with_reducible repeat (first | apply Kd.R_alloc | apply Kd.R_drewN | apply Kd.R_drew)); exact HO_665004.out) hb); have n6_ := Aside0.mk (blk_below (kb0_ BK656.out) hb); have n7_ := Aside0.mk (blk_below (kb0_ BK664.out) hb); have n8_ := Aside0.mk (below_step (ke_ HB.out) hb); clear HO_9; clear HO_11; clear HO_13; clear HO_657000; clear HO_657001; clear HO_665004; clear BK656; clear BK664; clear HB; have HO_9 := n0_; have HO_11 := n1_; have HO_13 := n2_; have HO_657000 := n3_; have HO_657001 := n4_; have HO_665004 := n5_; have BK656 := n6_; have BK664 := n7_; have HB := n8_; clear n0_ n1_ n2_ n3_ n4_ n5_ n6_ n7_ n8_; (try clear hb hb2 hk hi)) | ((with_reducible refine gate_dst (N := 16) rfl ?_); (try (refine gate_guard (by rfl) ?_; dsimp only)); refine box_event (by rfl) (N := 16) (by rfl) (cs := #[.int .i64 0, .int .i64 0, .int .i64 0, .int .i64 0]) (t := 44) kg_ ?_; intro gb684 hg w51 hbox hb; have n0_ := Aside0.mk (Kd.R_below (by (with_reducible repeat (first | apply Kd.R_alloc | apply Kd.R_drewN | apply Kd.R_drew)); exact HO_9.out) hb); have n1_ := Aside0.mk (Kd.R_below (by (with_reducible repeat (first | apply Kd.R_alloc | apply Kd.R_drewN | apply Kd.R_drew)); exact HO_11.out) hb); have n2_ := Aside0.mk (Kd.R_below (by (with_reducible repeat (first | apply Kd.R_alloc | apply Kd.R_drewN | apply Kd.R_drew)); exact HO_13.out) hb); have n3_ := Aside0.mk (Kd.R_below (by (with_reducible repeat (first | apply Kd.R_alloc | apply Kd.R_drewN | apply Kd.R_drew)); exact HO_657000.out) hb); have n4_ := Aside0.mk (Kd.S_below (by (with_reducible repeat (first | apply Kd.S_alloc | apply Kd.S_drewN | apply Kd.S_drew)); exact HO_657001.out) hb); have n5_ := Aside0.mk (Kd.R_below (by (with_reducible repeat (first | apply Kd.R_alloc | apply Kd.R_drewN | apply Kd.R_drew)); exact HO_665004.out) hb); have n6_ := Aside0.mk (blk_below (kb0_ BK656.out) hb); have n7_ := Aside0.mk (blk_below (kb0_ BK664.out) hb); have n8_ := Aside0.mk (below_step (ke_ HB.out) hb); have n9_ := Aside0.mk (hbox); have n10_ := kw_ (w := w) hg (ke_ HB.out); have n11_ := kw_ (w := w) hg (ke_ HB.out); have n12_ := kn_ hg (kb0_ BK656.out); have n13_ := Aside0.mk (Ne.symm n12_.out); have n14_ := kn_ hg (kb0_ BK664.out); have n15_ := Aside0.mk (Ne.symm n14_.out); clear HO_9; clear HO_11; clear HO_13; clear HO_657000; clear HO_657001; clear HO_665004; clear BK656; clear BK664; clear HB; have HO_9 := n0_; have HO_11 := n1_; have HO_13 := n2_; have HO_657000 := n3_; have HO_657001 := n4_; have HO_665004 := n5_; have BK656 := n6_; have BK664 := n7_; have HB := n8_; have BK684 := n9_; have GW684 := n10_; have GE684 := n11_; have NB656_684 := n12_; have NB684_656 := n13_; have NB664_684 := n14_; have NB684_664 := n15_; clear n0_ n1_ n2_ n3_ n4_ n5_ n6_ n7_ n8_ n9_ n10_ n11_ n12_ n13_ n14_ n15_; clear hb hbox hg; have hnb52 := NB684_656.out; have hnc52 := NB656_684.out; have hnb53 := NB684_664.out; have hnc53 := NB664_684.out; obtain ⟨hcz54_0, hcz54_1, hcz54_2, hcz54_3, hfz54_0, hfz54_1, hfz54_2, hfz54_3⟩ := cl4_ BK684.out; obtain ⟨hcz55_0, hcz55_1, hfz55_0, hfz55_1⟩ := cl2_ BK656.out) | ((with_reducible refine gate_callee (f := 29) rfl ?_); refine goesL_ (some 106) rfl rfl Try.func29 kr_ rfl #[.agg #[.slice Ao14 t650.length co14, .slice Ao16 t653.length co16], .int .i64 x15_2, .int .i64 t680] rfl km_ ?_; (with_reducible refine (impl_ClassAt.calls k2 _ _ t650 _ _ t653 x15_2 t680 t685 t686 _ ?side1 ?side2 ?side3 ?side4 A44.out).mono ?_); (case side1 => refine (Kd.R_reads' (e := 2) (base := w.heap.size) (ok := fun k_ => (some k_ ≠ (v668 : Value).ownBlock ∧ (some k_ ≠ (v672 : Value).ownBlock ∧ some k_ ≠ (v676 : Value).ownBlock))) (n := t650.length) (c := co14) ?_).2.2; exact (by (with_reducible repeat (first | apply Kd.R_alloc | apply Kd.R_drewN | apply Kd.R_drew)); exact (Kd.R_mono (Kd.R_far (p := ⟨gb684, 3, none⟩) (Kd.R_far (p := ⟨gb684, 2, none⟩) (Kd.R_far (p := ⟨gb684, 1, none⟩) (Kd.R_far (p := ⟨gb684, 0, none⟩) (Kd.R_types HO_657000.out BK684.out (by decide)) (fun _ hk => hk.2) (.int .i64 t679)) (fun _ hk => hk.2) (.int .i64 t680)) (fun _ hk => hk.2) (.int .i64 t681)) (fun _ hk => hk.2) (.int .i64 t682)) (fun _ h_ => h_.1)))); (case side2 => exact (Kd.R_reads' HO_657000.out).2.1); (case side3 => refine (Kd.S_reads' (e := 59) (base := w.heap.size) (ok := fun k_ => (some k_ ≠ (v668 : Value).ownBlock ∧ (some k_ ≠ (v672 : Value).ownBlock ∧ (some k_ ≠ (v676 : Value).ownBlock ∧ some k_ ≠ (.slice Ao14 t650.length co14 : Value).ownBlock)))) (n := t653.length) (c := co16) ?_).2.2; exact (by (with_reducible repeat (first | apply Kd.S_alloc | apply Kd.S_drewN | apply Kd.S_drew)); exact (Kd.S_mono (Kd.S_far (p := ⟨gb684, 3, none⟩) (Kd.S_far (p := ⟨gb684, 2, none⟩) (Kd.S_far (p := ⟨gb684, 1, none⟩) (Kd.S_far (p := ⟨gb684, 0, none⟩) (Kd.S_types HO_657001.out BK684.out (by decide)) (fun _ hk => hk.2) (.int .i64 t679)) (fun _ hk => hk.2) (.int .i64 t680)) (fun _ hk => hk.2) (.int .i64 t681)) (fun _ hk => hk.2) (.int .i64 t682)) (fun _ h_ => h_.1)))); (case side4 => exact (Kd.S_reads' HO_657001.out).2.1); rintro e w56 ⟨rfl, hb⟩; refine ⟨_, rfl, ?_⟩; have n0_ := Aside0.mk (Kd.R_below (by (with_reducible repeat (first | apply Kd.R_alloc | apply Kd.R_drewN | apply Kd.R_drew)); exact (Kd.R_mono (Kd.R_far (p := ⟨gb684, 3, none⟩) (Kd.R_far (p := ⟨gb684, 2, none⟩) (Kd.R_far (p := ⟨gb684, 1, none⟩) (Kd.R_far (p := ⟨gb684, 0, none⟩) (Kd.R_types HO_9.out BK684.out (by decide)) (fun _ hk => hk.2) (.int .i64 t679)) (fun _ hk => hk.2) (.int .i64 t680)) (fun _ hk => hk.2) (.int .i64 t681)) (fun _ hk => hk.2) (.int .i64 t682)) (fun _ h_ => h_.1))) hb); have n1_ := Aside0.mk (Kd.R_below (by (with_reducible repeat (first | apply Kd.R_alloc | apply Kd.R_drewN | apply Kd.R_drew)); exact (Kd.R_mono (Kd.R_far (p := ⟨gb684, 3, none⟩) (Kd.R_far (p := ⟨gb684, 2, none⟩) (Kd.R_far (p := ⟨gb684, 1, none⟩) (Kd.R_far (p := ⟨gb684, 0, none⟩) (Kd.R_types HO_11.out BK684.out (by decide)) (fun _ hk => hk.2) (.int .i64 t679)) (fun _ hk => hk.2) (.int .i64 t680)) (fun _ hk => hk.2) (.int .i64 t681)) (fun _ hk => hk.2) (.int .i64 t682)) (fun _ h_ => h_.1))) hb); have n2_ := Aside0.mk (Kd.R_below (by (with_reducible repeat (first | apply Kd.R_alloc | apply Kd.R_drewN | apply Kd.R_drew)); exact (Kd.R_mono (Kd.R_far (p := ⟨gb684, 3, none⟩) (Kd.R_far (p := ⟨gb684, 2, none⟩) (Kd.R_far (p := ⟨gb684, 1, none⟩) (Kd.R_far (p := ⟨gb684, 0, none⟩) (Kd.R_types HO_13.out BK684.out (by decide)) (fun _ hk => hk.2) (.int .i64 t679)) (fun _ hk => hk.2) (.int .i64 t680)) (fun _ hk => hk.2) (.int .i64 t681)) (fun _ hk => hk.2) (.int .i64 t682)) (fun _ h_ => h_.1))) hb); have n3_ := Aside0.mk (Kd.R_below (by (with_reducible repeat (first | apply Kd.R_alloc | apply Kd.R_drewN | apply Kd.R_drew)); exact (Kd.R_mono (Kd.R_far (p := ⟨gb684, 3, none⟩) (Kd.R_far (p := ⟨gb684, 2, none⟩) (Kd.R_far (p := ⟨gb684, 1, none⟩) (Kd.R_far (p := ⟨gb684, 0, none⟩) (Kd.R_types HO_657000.out BK684.out (by decide)) (fun _ hk => hk.2) (.int .i64 t679)) (fun _ hk => hk.2) (.int .i64 t680)) (fun _ hk => hk.2) (.int .i64 t681)) (fun _ hk => hk.2) (.int .i64 t682)) (fun _ h_ => h_.1))) hb); have n4_ := Aside0.mk (Kd.S_below (by (with_reducible repeat (first | apply Kd.S_alloc | apply Kd.S_drewN | apply Kd.S_drew)); exact (Kd.S_mono (Kd.S_far (p := ⟨gb684, 3, none⟩) (Kd.S_far (p := ⟨gb684, 2, none⟩) (Kd.S_far (p := ⟨gb684, 1, none⟩) (Kd.S_far (p := ⟨gb684, 0, none⟩) (Kd.S_types HO_657001.out BK684.out (by decide)) (fun _ hk => hk.2) (.int .i64 t679)) (fun _ hk => hk.2) (.int .i64 t680)) (fun _ hk => hk.2) (.int .i64 t681)) (fun _ hk => hk.2) (.int .i64 t682)) (fun _ h_ => h_.1))) hb); have n5_ := Aside0.mk (Kd.R_below (by (with_reducible repeat (first | apply Kd.R_alloc | apply Kd.R_drewN | apply Kd.R_drew)); exact (Kd.R_mono (Kd.R_far (p := ⟨gb684, 3, none⟩) (Kd.R_far (p := ⟨gb684, 2, none⟩) (Kd.R_far (p := ⟨gb684, 1, none⟩) (Kd.R_far (p := ⟨gb684, 0, none⟩) (Kd.R_types HO_665004.out BK684.out (by decide)) (fun _ hk => hk.2) (.int .i64 t679)) (fun _ hk => hk.2) (.int .i64 t680)) (fun _ hk => hk.2) (.int .i64 t681)) (fun _ hk => hk.2) (.int .i64 t682)) (fun _ h_ => h_.1))) hb); have n6_ := Aside0.mk (blk_below (kb1_ BK656.out NB656_684.out) hb); have n7_ := Aside0.mk (blk_below (kb1_ BK664.out NB664_684.out) hb); have n8_ := Aside0.mk (blk_below (g := gb684) (o := .cells #[.int .i64 t679, .int .i64 t680, .int .i64 t681, .int .i64 t682] 44 (0, 0)) (by (with_reducible repeat (first | refine blk_drewN ?_ _ | refine blk_drew ?_ | refine blk_alloc ?_ _)); refine blk_put (cs := #[.int .i64 t679, .int .i64 t680, .int .i64 t681, .int .i64 0]) ?_ 3 _ rfl; (with_reducible repeat (first | refine blk_drewN ?_ _ | refine blk_drew ?_ | refine blk_alloc ?_ _)); refine blk_put (cs := #[.int .i64 t679, .int .i64 t680, .int .i64 0, .int .i64 0]) ?_ 2 _ rfl; (with_reducible repeat (first | refine blk_drewN ?_ _ | refine blk_drew ?_ | refine blk_alloc ?_ _)); refine blk_put (cs := #[.int .i64 t679, .int .i64 0, .int .i64 0, .int .i64 0]) ?_ 1 _ rfl; (with_reducible repeat (first | refine blk_drewN ?_ _ | refine blk_drew ?_ | refine blk_alloc ?_ _)); refine blk_put (cs := #[.int .i64 0, .int .i64 0, .int .i64 0, .int .i64 0]) ?_ 0 _ rfl; (with_reducible repeat (first | refine blk_drewN ?_ _ | refine blk_drew ?_ | refine blk_alloc ?_ _)); exact BK684.out) hb); have n9_ := Aside0.mk (below_step (ke_ HB.out) hb); clear HO_9; clear HO_11; clear HO_13; clear HO_657000; clear HO_657001; clear HO_665004; clear BK656; clear BK664; clear BK684; clear HB; have HO_9 := n0_; have HO_11 := n1_; have HO_13 := n2_; have HO_657000 := n3_; have HO_657001 := n4_; have HO_665004 := n5_; have BK656 := n6_; have BK664 := n7_; have BK684 := n8_; have HB := n9_; clear n0_ n1_ n2_ n3_ n4_ n5_ n6_ n7_ n8_ n9_; (try clear hb hb2 hk hi); obtain ⟨hcz57_0, hcz57_1, hfz57_0, hfz57_1⟩ := cl2_ BK656.out; obtain ⟨hcz58_0, hcz58_1, hcz58_2, hcz58_3, hfz58_0, hfz58_1, hfz58_2, hfz58_3⟩ := cl4_ BK684.out) | ((with_reducible refine gate_callee (f := 20) rfl ?_); refine goesL_ (some 114) rfl rfl Try.func20 kr_ rfl #[.agg #[.slice Ao14 t650.length co14, .slice Ao16 t653.length co16], .int .i64 x15_2, .int .i64 t680] rfl km_ ?_; (with_reducible refine (impl_WeightOf.calls k2 _ _ t650 _ _ t653 x15_2 t680 t687 t688 _ ?side1 ?side2 ?side3 ?side4 A45.out).mono ?_); (case side1 => repeat (first | exact (Kd.R_reads' HO_657000.out).2.2 | (with_reducible first | refine Kd.C_alloc ?_ _ | refine Kd.C_drewN ?_ _ | refine Kd.C_drew ?_))); (case side2 => exact (Kd.R_reads' HO_657000.out).2.1); (case side3 => repeat (first | exact (Kd.S_reads' HO_657001.out).2.2 | (with_reducible first | refine Kd.C_alloc ?_ _ | refine Kd.C_drewN ?_ _ | refine Kd.C_drew ?_))); (case side4 => exact (Kd.S_reads' HO_657001.out).2.1); rintro e w59 ⟨rfl, hb⟩; refine ⟨_, rfl, ?_⟩; have n0_ := Aside0.mk (Kd.R_below (by (with_reducible repeat (first | apply Kd.R_alloc | apply Kd.R_drewN | apply Kd.R_drew)); exact HO_9.out) hb); have n1_ := Aside0.mk (Kd.R_below (by (with_reducible repeat (first | apply Kd.R_alloc | apply Kd.R_drewN | apply Kd.R_drew)); exact HO_11.out) hb); have n2_ := Aside0.mk (Kd.R_below (by (with_reducible repeat (first | apply Kd.R_alloc | apply Kd.R_drewN | apply Kd.R_drew)); exact HO_13.out) hb); have n3_ := Aside0.mk (Kd.R_below (by (with_reducible repeat (first | apply Kd.R_alloc | apply Kd.R_drewN | apply Kd.R_drew)); exact HO_657000.out) hb); have n4_ := Aside0.mk (Kd.S_below (by (with_reducible repeat (first | apply Kd.S_alloc | apply Kd.S_drewN | apply Kd.S_drew)); exact HO_657001.out) hb); have n5_ := Aside0.mk (Kd.R_below (by (with_reducible repeat (first | apply Kd.R_alloc | apply Kd.R_drewN | apply Kd.R_drew)); exact HO_665004.out) hb); have n6_ := Aside0.mk (blk_below (kb0_ BK656.out) hb); have n7_ := Aside0.mk (blk_below (kb0_ BK664.out) hb); have n8_ := Aside0.mk (blk_below (kb0_ BK684.out) hb); have n9_ := Aside0.mk (below_step (ke_ HB.out) hb); clear HO_9; clear HO_11; clear HO_13; clear HO_657000; clear HO_657001; clear HO_665004; clear BK656; clear BK664; clear BK684; clear HB; have HO_9 := n0_; have HO_11 := n1_; have HO_13 := n2_; have HO_657000 := n3_; have HO_657001 := n4_; have HO_665004 := n5_; have BK656 := n6_; have BK664 := n7_; have BK684 := n8_; have HB := n9_; clear n0_ n1_ n2_ n3_ n4_ n5_ n6_ n7_ n8_ n9_; (try clear hb hb2 hk hi); obtain ⟨hcz60_0, hcz60_1, hfz60_0, hfz60_1⟩ := cl2_ BK656.out; obtain ⟨hcz61_0, hcz61_1, hcz61_2, hcz61_3, hfz61_0, hfz61_1, hfz61_2, hfz61_3⟩ := cl4_ BK684.out) | ((with_reducible refine gate_callee (f := 13) rfl ?_); refine goesL_ (some 122) rfl rfl Try.func13 kr_ rfl #[.agg #[.slice Ao14 t650.length co14, .slice Ao16 t653.length co16], .int .i64 x15_2, .int .i64 t680] rfl km_ ?_; (with_reducible refine (impl_FaceOf.calls k2 _ _ t650 _ _ t653 x15_2 t680 t689 t692 _ ?side1 ?side2 ?side3 ?side4 A46.out).mono ?_); (case side1 => repeat (first | exact (Kd.R_reads' HO_657000.out).2.2 | (with_reducible first | refine Kd.C_alloc ?_ _ | refine Kd.C_drewN ?_ _ | refine Kd.C_drew ?_))); (case side2 => exact (Kd.R_reads' HO_657000.out).2.1); (case side3 => repeat (first | exact (Kd.S_reads' HO_657001.out).2.2 | (with_reducible first | refine Kd.C_alloc ?_ _ | refine Kd.C_drewN ?_ _ | refine Kd.C_drew ?_))); (case side4 => exact (Kd.S_reads' HO_657001.out).2.1); rintro e w62 ⟨v690, rfl, ho0, hb⟩; refine ⟨_, rfl, ?_⟩; have n0_ := Aside0.mk (Kd.R_elder' (by (with_reducible repeat (first | apply Kd.R_alloc | apply Kd.R_drewN | apply Kd.R_drew)); exact HO_9.out) (Kd.R_base ho0) hb); have n1_ := Aside0.mk (Kd.R_elder' (by (with_reducible repeat (first | apply Kd.R_alloc | apply Kd.R_drewN | apply Kd.R_drew)); exact HO_11.out) (Kd.R_base ho0) hb); have n2_ := Aside0.mk (Kd.R_elder' (by (with_reducible repeat (first | apply Kd.R_alloc | apply Kd.R_drewN | apply Kd.R_drew)); exact HO_13.out) (Kd.R_base ho0) hb); have n3_ := Aside0.mk (Kd.R_elder' (by (with_reducible repeat (first | apply Kd.R_alloc | apply Kd.R_drewN | apply Kd.R_drew)); exact HO_657000.out) (Kd.R_base ho0) hb); have n4_ := Aside0.mk (Kd.S_elder' (by (with_reducible repeat (first | apply Kd.S_alloc | apply Kd.S_drewN | apply Kd.S_drew)); exact HO_657001.out) (Kd.R_base ho0) hb); have n5_ := Aside0.mk (Kd.R_below (by (with_reducible repeat (first | apply Kd.R_alloc | apply Kd.R_drewN | apply Kd.R_drew)); exact HO_665004.out) hb); have n6_ := Aside0.mk (Kd.R_lower (Kd.R_new' (Kd.R_new' (Kd.R_new' (Kd.R_new' ho0 (Kd.R_lt (by (with_reducible repeat (first | apply Kd.R_alloc | apply Kd.R_drewN | apply Kd.R_drew)); exact HO_9.out))) (Kd.R_lt (by (with_reducible repeat (first | apply Kd.R_alloc | apply Kd.R_drewN | apply Kd.R_drew)); exact HO_11.out))) (Kd.R_lt (by (with_reducible repeat (first | apply Kd.R_alloc | apply Kd.R_drewN | apply Kd.R_drew)); exact HO_13.out))) (Kd.R_lt (by (with_reducible repeat (first | apply Kd.R_alloc | apply Kd.R_drewN | apply Kd.R_drew)); exact HO_657000.out))) (below_size (ke_ HB.out))); have n7_ := Aside0.mk (blk_below (kb0_ BK656.out) hb); have n8_ := Aside0.mk (blk_below (kb0_ BK664.out) hb); have n9_ := Aside0.mk (blk_below (kb0_ BK684.out) hb); have n10_ := Aside0.mk (below_step (ke_ HB.out) hb); clear HO_9; clear HO_11; clear HO_13; clear HO_657000; clear HO_657001; clear HO_665004; clear BK656; clear BK664; clear BK684; clear HB; have HO_9 := n0_; have HO_11 := n1_; have HO_13 := n2_; have HO_657000 := n3_; have HO_657001 := n4_; have HO_665004 := n5_; have HO691 := n6_; have BK656 := n7_; have BK664 := n8_; have BK684 := n9_; have HB := n10_; clear n0_ n1_ n2_ n3_ n4_ n5_ n6_ n7_ n8_ n9_ n10_; (try clear hb hb2 hk hi ho0)))
        (try simp only [Act.put, qa_, qz_, qs_])
        go_cut [163] (fun v163 wc => ∃ (kq : Nat) (x163_46 : Bool), v163 = .bool x163_46 ∧ Aside0 (laws_FnAlong.j2 kq t665 t667 t671 t675 x15_2 t689 x163_46 t650 t653 t657 t658 t659 t660 t661 = some r) ∧ Aside0 (kq ≤ k2) ∧ Aside0 (Kd.R (Kd.int .i64) 2 wc w.heap.size (fun k_ => some k_ ≠ (v672 : Value).ownBlock ∧ some k_ ≠ (v676 : Value).ownBlock ∧ some k_ ≠ (v690 : Value).ownBlock ∧ some k_ ≠ ((.slice Ao14 t650.length co14) : Value).ownBlock) v668 t667) ∧ Aside0 (Kd.R (Kd.int .i64) 2 wc w.heap.size (fun k_ => some k_ ≠ (v668 : Value).ownBlock ∧ some k_ ≠ (v676 : Value).ownBlock ∧ some k_ ≠ (v690 : Value).ownBlock ∧ some k_ ≠ ((.slice Ao14 t650.length co14) : Value).ownBlock) v672 t671) ∧ Aside0 (Kd.R (Kd.int .i64) 2 wc w.heap.size (fun k_ => some k_ ≠ (v668 : Value).ownBlock ∧ some k_ ≠ (v672 : Value).ownBlock ∧ some k_ ≠ (v690 : Value).ownBlock ∧ some k_ ≠ ((.slice Ao14 t650.length co14) : Value).ownBlock) v676 t675) ∧ Aside0 (Kd.R (Kd.int .i64) 2 wc w.heap.size (fun k_ => some k_ ≠ (v668 : Value).ownBlock ∧ some k_ ≠ (v672 : Value).ownBlock ∧ some k_ ≠ (v676 : Value).ownBlock ∧ some k_ ≠ ((.slice Ao14 t650.length co14) : Value).ownBlock) v690 t689) ∧ Aside0 (Kd.R (Kd.int .i64) 2 wc w.heap.size (fun k_ => some k_ ≠ (v668 : Value).ownBlock ∧ some k_ ≠ (v672 : Value).ownBlock ∧ some k_ ≠ (v676 : Value).ownBlock ∧ some k_ ≠ (v690 : Value).ownBlock) (.slice Ao14 t650.length co14) t650) ∧ Aside0 (Kd.S k59 59 wc w.heap.size (fun k_ => some k_ ≠ (v668 : Value).ownBlock ∧ some k_ ≠ (v672 : Value).ownBlock ∧ some k_ ≠ (v676 : Value).ownBlock ∧ some k_ ≠ (v690 : Value).ownBlock ∧ some k_ ≠ ((.slice Ao14 t650.length co14) : Value).ownBlock) (.slice Ao16 t653.length co16) t653) ∧ Aside0 (Kd.R k124 124 wc w.heap.size (fun _ => True) (.slice Ao21 t661.length co21) t661) ∧ Aside0 (wc.heap[gb656]? = some (.cells #[(.slice Ao14 t650.length co14), (.slice Ao16 t653.length co16)] 31 (0, 0))) ∧ Aside0 (wc.heap[gb664]? = some (.cells #[.int .i64 t657, .int .i64 t658, .int .i64 t659, .int .i64 t660, (.slice Ao21 t661.length co21)] 47 (0, 0))) ∧ Aside0 (wc.heap[gb684]? = some (.cells #[.int .i64 t679, .int .i64 t680, .int .i64 t681, .int .i64 t682] 44 (0, 0))) ∧ Aside0 (Below w.heap.size w wc))
        case first =>
         have H := HC47.out; clear HC47
         by_cases c63 : t683 = true
         ·subst c63; (have H1 : (if t686 = true then (if t688 = true then (if t692 = true then (if 0 ≤ x15_2 then (if x15_2 < (t667.length : Int) then (if (rd t667 x15_2) = t685 then (if x15_2 < (t671.length : Int) then (if (rd t671 x15_2) = t687 then (laws_FnAlong.j2 k2 t665 t667 t671 t675 x15_2 t689 ((t689.length : Int) != (wrap64 ((t650.length : Int) + 1))) t650 t653 t657 t658 t659 t660 t661) else (none)) else (none)) else (none)) else (none)) else (none)) else (none)) else (none)) else (none)) = some r := by rw [if_pos rfl] at H; exact H); clear H; have H := H1; clear H1
          by_cases c64 : t686 = true
          ·subst c64; (have H1 : (if t688 = true then (if t692 = true then (if 0 ≤ x15_2 then (if x15_2 < (t667.length : Int) then (if (rd t667 x15_2) = t685 then (if x15_2 < (t671.length : Int) then (if (rd t671 x15_2) = t687 then (laws_FnAlong.j2 k2 t665 t667 t671 t675 x15_2 t689 ((t689.length : Int) != (wrap64 ((t650.length : Int) + 1))) t650 t653 t657 t658 t659 t660 t661) else (none)) else (none)) else (none)) else (none)) else (none)) else (none)) else (none)) = some r := by rw [if_pos rfl] at H; exact H); clear H; have H := H1; clear H1
           by_cases c65 : t688 = true
           ·subst c65; (have H1 : (if t692 = true then (if 0 ≤ x15_2 then (if x15_2 < (t667.length : Int) then (if (rd t667 x15_2) = t685 then (if x15_2 < (t671.length : Int) then (if (rd t671 x15_2) = t687 then (laws_FnAlong.j2 k2 t665 t667 t671 t675 x15_2 t689 ((t689.length : Int) != (wrap64 ((t650.length : Int) + 1))) t650 t653 t657 t658 t659 t660 t661) else (none)) else (none)) else (none)) else (none)) else (none)) else (none)) = some r := by rw [if_pos rfl] at H; exact H); clear H; have H := H1; clear H1
            by_cases c66 : t692 = true
            ·subst c66; (have H1 : (if 0 ≤ x15_2 then (if x15_2 < (t667.length : Int) then (if (rd t667 x15_2) = t685 then (if x15_2 < (t671.length : Int) then (if (rd t671 x15_2) = t687 then (laws_FnAlong.j2 k2 t665 t667 t671 t675 x15_2 t689 ((t689.length : Int) != (wrap64 ((t650.length : Int) + 1))) t650 t653 t657 t658 t659 t660 t661) else (none)) else (none)) else (none)) else (none)) else (none)) = some r := by rw [if_pos rfl] at H; exact H); clear H; have H := H1; clear H1
             by_cases c67 : 0 ≤ x15_2
             ·rw [if_pos c67] at H; have c67b0 : decide (0 ≤ x15_2) = true := decide_eq_true c67; clear c67
              (first | rw [c67b0] | (simp only [i64_w, i32_w]; rw [c67b0]) | skip)
              by_cases c68 : x15_2 < (t667.length : Int)
              ·rw [if_pos c68] at H; have c68b0 : decide (x15_2 < (t667.length : Int)) = true := decide_eq_true c68; clear c68
               by_cases c69 : (rd t667 x15_2) = t685
               ·rw [if_pos c69] at H; have c69b0 : ((rd t667 x15_2) == t685) = true := beq_iff_eq.mpr c69; have c69b1 : ((rd t667 x15_2) != t685) = false := bne_eq_false_iff_eq.mpr c69; clear c69
                by_cases c70 : x15_2 < (t671.length : Int)
                ·rw [if_pos c70] at H; have c70b0 : decide (x15_2 < (t671.length : Int)) = true := decide_eq_true c70; clear c70
                 by_cases c71 : (rd t671 x15_2) = t687
                 ·rw [if_pos c71] at H; have c71b0 : ((rd t671 x15_2) == t687) = true := beq_iff_eq.mpr c71; have c71b1 : ((rd t671 x15_2) != t687) = false := bne_eq_false_iff_eq.mpr c71; clear c71; have H' := Aside0.mk H; clear H; obtain ⟨Ao72, co72, eo72⟩ := Kd.R_slice HO_9.out; subst eo72; have p693 : 0 ≤ (x15_2 : Int) := of_decide_eq_true (by assumption); have q693 : x15_2 < (t667.length : Int) := of_decide_eq_true (by assumption); obtain ⟨ad693, e693, hx693_0⟩ := Kd.at_int (Kd.R_reads' HO_9.out).2.2 x15_2 p693 q693
                  cases e693
                  replace p693 := eq_true p693; replace q693 := eq_true q693; obtain ⟨Ao73, co73, eo73⟩ := Kd.R_slice HO_11.out; subst eo73; have p694 : 0 ≤ (x15_2 : Int) := of_decide_eq_true (by assumption); have q694 : x15_2 < (t671.length : Int) := of_decide_eq_true (by assumption); obtain ⟨ad694, e694, hx694_0⟩ := Kd.at_int (Kd.R_reads' HO_11.out).2.2 x15_2 p694 q694
                  cases e694
                  replace p694 := eq_true p694; replace q694 := eq_true q694; obtain ⟨Ao74, co74, eo74⟩ := Kd.R_slice HO691.out; subst eo74; have hnb75 := NB656_664.out; have hnc75 := NB664_656.out; have hnb76 := NB656_684.out; have hnc76 := NB684_656.out; obtain ⟨hcz77_0, hcz77_1, hfz77_0, hfz77_1⟩ := cl2_ BK656.out
                  go_wp2
                  go_meet
                  case rel => exact ⟨_, (((t689.length : Int) != (wrap64 ((t650.length : Int) + 1)))), ks_, H', ⟨by have := HJ10.out; have := HK2.out; first | omega | exact Nat.le_refl _⟩, ⟨by (with_reducible repeat (first | apply Kd.R_alloc | apply Kd.R_drewN | apply Kd.R_drew)); exact Kd.R_mono HO_9.out (fun _ hk => ⟨hk.1.1, ⟨hk.1.2.1, ⟨hk.2, hk.1.2.2⟩⟩⟩)⟩, ⟨by (with_reducible repeat (first | apply Kd.R_alloc | apply Kd.R_drewN | apply Kd.R_drew)); exact Kd.R_mono HO_11.out (fun _ hk => ⟨hk.1.1, ⟨hk.1.2.1, ⟨hk.2, hk.1.2.2⟩⟩⟩)⟩, ⟨by (with_reducible repeat (first | apply Kd.R_alloc | apply Kd.R_drewN | apply Kd.R_drew)); exact Kd.R_mono HO_13.out (fun _ hk => ⟨hk.1.1, ⟨hk.1.2.1, ⟨hk.2, hk.1.2.2⟩⟩⟩)⟩, ⟨by (with_reducible repeat (first | apply Kd.R_alloc | apply Kd.R_drewN | apply Kd.R_drew)); exact Kd.R_mono HO691.out (fun _ hk => ⟨hk.1.1.1.2, ⟨hk.1.1.2, ⟨hk.1.2, hk.2⟩⟩⟩)⟩, ⟨by (with_reducible repeat (first | apply Kd.R_alloc | apply Kd.R_drewN | apply Kd.R_drew)); exact Kd.R_mono HO_657000.out (fun _ hk => ⟨hk.1.1, ⟨hk.1.2.1, ⟨hk.1.2.2, hk.2⟩⟩⟩)⟩, ⟨by (with_reducible repeat (first | apply Kd.S_alloc | apply Kd.S_drewN | apply Kd.S_drew)); exact Kd.S_mono HO_657001.out (fun _ hk => ⟨hk.1.1, ⟨hk.1.2.1, ⟨hk.1.2.2.1, ⟨hk.2, hk.1.2.2.2⟩⟩⟩⟩)⟩, ⟨by (with_reducible repeat (first | apply Kd.R_alloc | apply Kd.R_drewN | apply Kd.R_drew)); exact HO_665004.out⟩, ⟨kb0_ BK656.out⟩, ⟨kb0_ BK664.out⟩, ⟨kb0_ BK684.out⟩, ⟨ke_ HB.out⟩⟩
                 ·rw [if_neg c71] at H; exact absurd H (by simp)
                ·rw [if_neg c70] at H; exact absurd H (by simp)
               ·rw [if_neg c69] at H; exact absurd H (by simp)
              ·rw [if_neg c68] at H; exact absurd H (by simp)
             ·rw [if_neg c67] at H; exact absurd H (by simp)
            ·replace c66 := Bool.eq_false_iff.mpr c66; subst c66; (have H1 : (none) = some r := by rw [if_neg (show ¬ (false = true) by decide)] at H; exact H); clear H; have H := H1; clear H1; exact absurd H (by simp)
           ·replace c65 := Bool.eq_false_iff.mpr c65; subst c65; (have H1 : (none) = some r := by rw [if_neg (show ¬ (false = true) by decide)] at H; exact H); clear H; have H := H1; clear H1; exact absurd H (by simp)
          ·replace c64 := Bool.eq_false_iff.mpr c64; subst c64; (have H1 : (none) = some r := by rw [if_neg (show ¬ (false = true) by decide)] at H; exact H); clear H; have H := H1; clear H1; exact absurd H (by simp)
         ·replace c63 := Bool.eq_false_iff.mpr c63; subst c63; (have H1 : (none) = some r := by rw [if_neg (show ¬ (false = true) by decide)] at H; exact H); clear H; have H := H1; clear H1; exact absurd H (by simp)
        case rest =>
         clear HC47; (try clear c1); (try clear c2); (try clear p2); (try clear c3); (try clear c4); (try clear c5); (try clear c6); (try clear p6); (try clear q6); (try clear hx6); (try clear c7); (try clear c13); (try clear c19); (try clear c20); (try clear c21); (try clear c22); (try clear c23); (try clear c24); (try clear c25); (try clear c26); (try clear c27); (try clear c28); (try clear c29); (try clear c32); (try clear c33); (try clear c34); (try clear c35); (try clear c36); (try clear c36b0); (try clear c37); (try clear c37b0); (try clear c38); (try clear c38b0); (try clear c38b1); (try clear c41); (try clear c42); (try clear c42b0); (try clear c48); (try clear c52); (try clear c53); (try clear c63); (try clear c64); (try clear p64); (try clear c65); (try clear c66); (try clear c67); (try clear c67b0); (try clear c68); (try clear c68b0); (try clear c69); (try clear c69b0); (try clear c69b1); (try clear p69); (try clear q69); (try clear hx69); (try clear c70); (try clear c70b0); (try clear c71); (try clear c71b0); (try clear c71b1); (try clear c75); (try clear c76); (try clear hcz15_0); (try clear hcz15_1); (try clear hcz20_0); (try clear hcz20_1); (try clear hcz20_2); (try clear hcz20_3); (try clear hcz20_4); (try clear hcz23_0); (try clear hcz23_1); (try clear hcz24_0); (try clear hcz24_1); (try clear hcz24_2); (try clear hcz24_3); (try clear hcz24_4); (try clear hcz26_0); (try clear hcz26_1); (try clear hcz27_0); (try clear hcz27_1); (try clear hcz27_2); (try clear hcz27_3); (try clear hcz27_4); (try clear hcz29_0); (try clear hcz29_1); (try clear hcz30_0); (try clear hcz30_1); (try clear hcz30_2); (try clear hcz30_3); (try clear hcz30_4); (try clear hcz49_0); (try clear hcz49_1); (try clear hcz49_2); (try clear hcz49_3); (try clear hcz49_4); (try clear hcz54_0); (try clear hcz54_1); (try clear hcz54_2); (try clear hcz54_3); (try clear hcz55_0); (try clear hcz55_1); (try clear hcz57_0); (try clear hcz57_1); (try clear hcz58_0); (try clear hcz58_1); (try clear hcz58_2); (try clear hcz58_3); (try clear hcz60_0); (try clear hcz60_1); (try clear hcz61_0); (try clear hcz61_1); (try clear hcz61_2); (try clear hcz61_3); (try clear hcz77_0); (try clear hcz77_1); (try clear hfz15_0); (try clear hfz15_1); (try clear hfz20_0); (try clear hfz20_1); (try clear hfz20_2); (try clear hfz20_3); (try clear hfz20_4); (try clear hfz23_0); (try clear hfz23_1); (try clear hfz24_0); (try clear hfz24_1); (try clear hfz24_2); (try clear hfz24_3); (try clear hfz24_4); (try clear hfz26_0); (try clear hfz26_1); (try clear hfz27_0); (try clear hfz27_1); (try clear hfz27_2); (try clear hfz27_3); (try clear hfz27_4); (try clear hfz29_0); (try clear hfz29_1); (try clear hfz30_0); (try clear hfz30_1); (try clear hfz30_2); (try clear hfz30_3); (try clear hfz30_4); (try clear hfz49_0); (try clear hfz49_1); (try clear hfz49_2); (try clear hfz49_3); (try clear hfz49_4); (try clear hfz54_0); (try clear hfz54_1); (try clear hfz54_2); (try clear hfz54_3); (try clear hfz55_0); (try clear hfz55_1); (try clear hfz57_0); (try clear hfz57_1); (try clear hfz58_0); (try clear hfz58_1); (try clear hfz58_2); (try clear hfz58_3); (try clear hfz60_0); (try clear hfz60_1); (try clear hfz61_0); (try clear hfz61_1); (try clear hfz61_2); (try clear hfz61_3); (try clear hfz77_0); (try clear hfz77_1); (try clear hx693_0); (try clear hx694_0); (try clear p2); (try clear p693); (try clear p694); (try clear q693); (try clear q694); obtain ⟨kq, x163_46, rfl, HA, HJ46, HO_9, HO_11, HO_13, HO_22, HO_657000, HO_657001, HO_665004, BK656, BK664, BK684, HB⟩ := hcut
         cases kq with
         | zero => exact absurd HA.out (by simp [laws_FnAlong.j2])
         | succ kj46 =>
          have H := HA.out; clear HA; simp only [laws_FnAlong.j2] at H
          by_cases c78 : x163_46 = true
          ·subst c78; (have H1 : (none) = some r := by rw [if_pos rfl] at H; exact H); clear H; have H := H1; clear H1; exact absurd H (by simp)
          ·replace c78 := Bool.eq_false_iff.mpr c78; subst c78; (have H1 : (laws_FnAlong.l1 kj46 t665 t667 t671 t675 x15_2 t689 0 0 t650 t653 t657 t658 t659 t660 t661) = some r := by rw [if_neg (show ¬ (false = true) by decide)] at H; exact H); clear H; have H := H1; clear H1; have H' := Aside0.mk H; clear H
           go_wp2
           go_loopg [24, 25] kj46 (fun kq v24 v25 w' => ∃ (x24_4 : Int) (x25_4 : Int), v24 = .int .i64 x24_4 ∧ v25 = .int .i64 x25_4 ∧ Aside0 (laws_FnAlong.l1 kq t665 t667 t671 t675 x15_2 t689 x24_4 x25_4 t650 t653 t657 t658 t659 t660 t661 = some r) ∧ Aside0 (kq ≤ kj46) ∧ Aside0 (Kd.R (Kd.int .i64) 2 w' w.heap.size (fun k_ => some k_ ≠ (v672 : Value).ownBlock ∧ some k_ ≠ (v676 : Value).ownBlock ∧ some k_ ≠ (v690 : Value).ownBlock ∧ some k_ ≠ ((.slice Ao14 t650.length co14) : Value).ownBlock) v668 t667) ∧ Aside0 (Kd.R (Kd.int .i64) 2 w' w.heap.size (fun k_ => some k_ ≠ (v668 : Value).ownBlock ∧ some k_ ≠ (v676 : Value).ownBlock ∧ some k_ ≠ (v690 : Value).ownBlock ∧ some k_ ≠ ((.slice Ao14 t650.length co14) : Value).ownBlock) v672 t671) ∧ Aside0 (Kd.R (Kd.int .i64) 2 w' w.heap.size (fun k_ => some k_ ≠ (v668 : Value).ownBlock ∧ some k_ ≠ (v672 : Value).ownBlock ∧ some k_ ≠ (v690 : Value).ownBlock ∧ some k_ ≠ ((.slice Ao14 t650.length co14) : Value).ownBlock) v676 t675) ∧ Aside0 (Kd.R (Kd.int .i64) 2 w' w.heap.size (fun k_ => some k_ ≠ (v668 : Value).ownBlock ∧ some k_ ≠ (v672 : Value).ownBlock ∧ some k_ ≠ (v676 : Value).ownBlock ∧ some k_ ≠ ((.slice Ao14 t650.length co14) : Value).ownBlock) v690 t689) ∧ Aside0 (Kd.R (Kd.int .i64) 2 w' w.heap.size (fun k_ => some k_ ≠ (v668 : Value).ownBlock ∧ some k_ ≠ (v672 : Value).ownBlock ∧ some k_ ≠ (v676 : Value).ownBlock ∧ some k_ ≠ (v690 : Value).ownBlock) (.slice Ao14 t650.length co14) t650) ∧ Aside0 (Kd.S k59 59 w' w.heap.size (fun k_ => some k_ ≠ (v668 : Value).ownBlock ∧ some k_ ≠ (v672 : Value).ownBlock ∧ some k_ ≠ (v676 : Value).ownBlock ∧ some k_ ≠ (v690 : Value).ownBlock ∧ some k_ ≠ ((.slice Ao14 t650.length co14) : Value).ownBlock) (.slice Ao16 t653.length co16) t653) ∧ Aside0 (Kd.R k124 124 w' w.heap.size (fun _ => True) (.slice Ao21 t661.length co21) t661) ∧ Aside0 (w'.heap[gb656]? = some (.cells #[(.slice Ao14 t650.length co14), (.slice Ao16 t653.length co16)] 31 (0, 0))) ∧ Aside0 (w'.heap[gb664]? = some (.cells #[.int .i64 t657, .int .i64 t658, .int .i64 t659, .int .i64 t660, (.slice Ao21 t661.length co21)] 47 (0, 0))) ∧ Aside0 (w'.heap[gb684]? = some (.cells #[.int .i64 t679, .int .i64 t680, .int .i64 t681, .int .i64 t682] 44 (0, 0))) ∧ Aside0 (Below w.heap.size w w'))
           case atStart => exact ⟨(0), (0), ks_, ks_, H', ⟨Nat.le_refl _⟩, ⟨by (with_reducible repeat (first | apply Kd.R_alloc | apply Kd.R_drewN | apply Kd.R_drew)); exact HO_9.out⟩, ⟨by (with_reducible repeat (first | apply Kd.R_alloc | apply Kd.R_drewN | apply Kd.R_drew)); exact HO_11.out⟩, ⟨by (with_reducible repeat (first | apply Kd.R_alloc | apply Kd.R_drewN | apply Kd.R_drew)); exact HO_13.out⟩, ⟨by (with_reducible repeat (first | apply Kd.R_alloc | apply Kd.R_drewN | apply Kd.R_drew)); exact HO_22.out⟩, ⟨by (with_reducible repeat (first | apply Kd.R_alloc | apply Kd.R_drewN | apply Kd.R_drew)); exact HO_657000.out⟩, ⟨by (with_reducible repeat (first | apply Kd.S_alloc | apply Kd.S_drewN | apply Kd.S_drew)); exact HO_657001.out⟩, ⟨by (with_reducible repeat (first | apply Kd.R_alloc | apply Kd.R_drewN | apply Kd.R_drew)); exact HO_665004.out⟩, ⟨kb0_ BK656.out⟩, ⟨kb0_ BK664.out⟩, ⟨kb0_ BK684.out⟩, ⟨ke_ HB.out⟩⟩
           case round =>
            clear H'; (try clear c1); (try clear c2); (try clear p2); (try clear c3); (try clear c4); (try clear c5); (try clear c6); (try clear p6); (try clear q6); (try clear hx6); (try clear c7); (try clear c13); (try clear c19); (try clear c20); (try clear c21); (try clear c22); (try clear c23); (try clear c24); (try clear c25); (try clear c26); (try clear c27); (try clear c28); (try clear c29); (try clear c32); (try clear c33); (try clear c34); (try clear c35); (try clear c36); (try clear c36b0); (try clear c37); (try clear c37b0); (try clear c38); (try clear c38b0); (try clear c38b1); (try clear c41); (try clear c42); (try clear c42b0); (try clear c48); (try clear c52); (try clear c53); (try clear c63); (try clear c64); (try clear p64); (try clear c65); (try clear c66); (try clear c67); (try clear c67b0); (try clear c68); (try clear c68b0); (try clear c69); (try clear c69b0); (try clear c69b1); (try clear p69); (try clear q69); (try clear hx69); (try clear c70); (try clear c70b0); (try clear c71); (try clear c71b0); (try clear c71b1); (try clear c75); (try clear c76); (try clear c78); (try clear hcz15_0); (try clear hcz15_1); (try clear hcz20_0); (try clear hcz20_1); (try clear hcz20_2); (try clear hcz20_3); (try clear hcz20_4); (try clear hcz23_0); (try clear hcz23_1); (try clear hcz24_0); (try clear hcz24_1); (try clear hcz24_2); (try clear hcz24_3); (try clear hcz24_4); (try clear hcz26_0); (try clear hcz26_1); (try clear hcz27_0); (try clear hcz27_1); (try clear hcz27_2); (try clear hcz27_3); (try clear hcz27_4); (try clear hcz29_0); (try clear hcz29_1); (try clear hcz30_0); (try clear hcz30_1); (try clear hcz30_2); (try clear hcz30_3); (try clear hcz30_4); (try clear hcz49_0); (try clear hcz49_1); (try clear hcz49_2); (try clear hcz49_3); (try clear hcz49_4); (try clear hcz54_0); (try clear hcz54_1); (try clear hcz54_2); (try clear hcz54_3); (try clear hcz55_0); (try clear hcz55_1); (try clear hcz57_0); (try clear hcz57_1); (try clear hcz58_0); (try clear hcz58_1); (try clear hcz58_2); (try clear hcz58_3); (try clear hcz60_0); (try clear hcz60_1); (try clear hcz61_0); (try clear hcz61_1); (try clear hcz61_2); (try clear hcz61_3); (try clear hcz77_0); (try clear hcz77_1); (try clear hfz15_0); (try clear hfz15_1); (try clear hfz20_0); (try clear hfz20_1); (try clear hfz20_2); (try clear hfz20_3); (try clear hfz20_4); (try clear hfz23_0); (try clear hfz23_1); (try clear hfz24_0); (try clear hfz24_1); (try clear hfz24_2); (try clear hfz24_3); (try clear hfz24_4); (try clear hfz26_0); (try clear hfz26_1); (try clear hfz27_0); (try clear hfz27_1); (try clear hfz27_2); (try clear hfz27_3); (try clear hfz27_4); (try clear hfz29_0); (try clear hfz29_1); (try clear hfz30_0); (try clear hfz30_1); (try clear hfz30_2); (try clear hfz30_3); (try clear hfz30_4); (try clear hfz49_0); (try clear hfz49_1); (try clear hfz49_2); (try clear hfz49_3); (try clear hfz49_4); (try clear hfz54_0); (try clear hfz54_1); (try clear hfz54_2); (try clear hfz54_3); (try clear hfz55_0); (try clear hfz55_1); (try clear hfz57_0); (try clear hfz57_1); (try clear hfz58_0); (try clear hfz58_1); (try clear hfz58_2); (try clear hfz58_3); (try clear hfz60_0); (try clear hfz60_1); (try clear hfz61_0); (try clear hfz61_1); (try clear hfz61_2); (try clear hfz61_3); (try clear hfz77_0); (try clear hfz77_1); (try clear hx693_0); (try clear hx694_0); (try clear p2); (try clear p6); (try clear p64); (try clear p69); (try clear p693); (try clear p694); (try clear q6); (try clear q69); (try clear q693); (try clear q694); obtain ⟨x24_4, x25_4, rfl, rfl, HA, HK4, HO_9, HO_11, HO_13, HO_22, HO_657000, HO_657001, HO_665004, BK656, BK664, BK684, HB⟩ := hrel
            cases gk with
            | zero => exact absurd HA.out (by simp [laws_FnAlong.l1])
            | succ k4 =>
             have H := HA.out; clear HA; simp only [laws_FnAlong.l1] at H
             by_cases c79 : x25_4 < (t650.length : Int)
             ·rw [if_pos c79] at H; have c79b0 : decide (x25_4 < (t650.length : Int)) = true := decide_eq_true c79; clear c79
              by_cases c80 : 0 ≤ x25_4
              ·rw [if_pos c80] at H; have c80b0 : decide (0 ≤ x25_4) = true := decide_eq_true c80; clear c80
               by_cases c81 : x25_4 < (t689.length : Int)
               ·rw [if_pos c81] at H; have c81b0 : decide (x25_4 < (t689.length : Int)) = true := decide_eq_true c81; clear c81
                by_cases c82 : (rd t689 x25_4) > 0
                ·rw [if_pos c82] at H; have c82b0 : decide (0 < (rd t689 x25_4)) = true := decide_eq_true c82; clear c82; have H' := Aside0.mk H; clear H; have hnb83 := NB656_664.out; have hnc83 := NB664_656.out; have hnb84 := NB656_684.out; have hnc84 := NB684_656.out; obtain ⟨hcz85_0, hcz85_1, hfz85_0, hfz85_1⟩ := cl2_ BK656.out; obtain ⟨Ao86, co86, eo86⟩ := Kd.R_slice HO_22.out; subst eo86; have p695 : 0 ≤ (x25_4 : Int) := of_decide_eq_true (by assumption); have q695 : x25_4 < (t689.length : Int) := of_decide_eq_true (by assumption); obtain ⟨ad695, e695, hx695_0⟩ := Kd.at_int (Kd.R_reads' HO_22.out).2.2 x25_4 p695 q695
                 cases e695
                 replace p695 := eq_true p695; replace q695 := eq_true q695
                 go_wp2
                 go_roundg k4
                 case measure => have := HJ10.out; have := HK2.out; have := HJ46.out; have := HK4.out; omega
                 case rel => exact ⟨(wrap64 (x24_4 + 1)), (wrap64 (x25_4 + 1)), ks_, ks_, H', ⟨by have := HJ10.out; have := HK2.out; have := HJ46.out; have := HK4.out; omega⟩, ⟨by (with_reducible repeat (first | apply Kd.R_alloc | apply Kd.R_drewN | apply Kd.R_drew)); exact HO_9.out⟩, ⟨by (with_reducible repeat (first | apply Kd.R_alloc | apply Kd.R_drewN | apply Kd.R_drew)); exact HO_11.out⟩, ⟨by (with_reducible repeat (first | apply Kd.R_alloc | apply Kd.R_drewN | apply Kd.R_drew)); exact HO_13.out⟩, ⟨by (with_reducible repeat (first | apply Kd.R_alloc | apply Kd.R_drewN | apply Kd.R_drew)); exact HO_22.out⟩, ⟨by (with_reducible repeat (first | apply Kd.R_alloc | apply Kd.R_drewN | apply Kd.R_drew)); exact HO_657000.out⟩, ⟨by (with_reducible repeat (first | apply Kd.S_alloc | apply Kd.S_drewN | apply Kd.S_drew)); exact HO_657001.out⟩, ⟨by (with_reducible repeat (first | apply Kd.R_alloc | apply Kd.R_drewN | apply Kd.R_drew)); exact HO_665004.out⟩, ⟨kb0_ BK656.out⟩, ⟨kb0_ BK664.out⟩, ⟨kb0_ BK684.out⟩, ⟨ke_ HB.out⟩⟩
                ·rw [if_neg c82] at H; have c82b0 : decide (0 < (rd t689 x25_4)) = false := decide_eq_false c82; clear c82; have H' := Aside0.mk H; clear H; have hnb87 := NB656_664.out; have hnc87 := NB664_656.out; have hnb88 := NB656_684.out; have hnc88 := NB684_656.out; obtain ⟨hcz89_0, hcz89_1, hfz89_0, hfz89_1⟩ := cl2_ BK656.out; obtain ⟨Ao90, co90, eo90⟩ := Kd.R_slice HO_22.out; subst eo90; have p695 : 0 ≤ (x25_4 : Int) := of_decide_eq_true (by assumption); have q695 : x25_4 < (t689.length : Int) := of_decide_eq_true (by assumption); obtain ⟨ad695, e695, hx695_0⟩ := Kd.at_int (Kd.R_reads' HO_22.out).2.2 x25_4 p695 q695
                 cases e695
                 replace p695 := eq_true p695; replace q695 := eq_true q695
                 go_wp2
                 go_roundg k4
                 case measure => have := HJ10.out; have := HK2.out; have := HJ46.out; have := HK4.out; omega
                 case rel => exact ⟨(x24_4), (wrap64 (x25_4 + 1)), ks_, ks_, H', ⟨by have := HJ10.out; have := HK2.out; have := HJ46.out; have := HK4.out; omega⟩, ⟨by (with_reducible repeat (first | apply Kd.R_alloc | apply Kd.R_drewN | apply Kd.R_drew)); exact HO_9.out⟩, ⟨by (with_reducible repeat (first | apply Kd.R_alloc | apply Kd.R_drewN | apply Kd.R_drew)); exact HO_11.out⟩, ⟨by (with_reducible repeat (first | apply Kd.R_alloc | apply Kd.R_drewN | apply Kd.R_drew)); exact HO_13.out⟩, ⟨by (with_reducible repeat (first | apply Kd.R_alloc | apply Kd.R_drewN | apply Kd.R_drew)); exact HO_22.out⟩, ⟨by (with_reducible repeat (first | apply Kd.R_alloc | apply Kd.R_drewN | apply Kd.R_drew)); exact HO_657000.out⟩, ⟨by (with_reducible repeat (first | apply Kd.S_alloc | apply Kd.S_drewN | apply Kd.S_drew)); exact HO_657001.out⟩, ⟨by (with_reducible repeat (first | apply Kd.R_alloc | apply Kd.R_drewN | apply Kd.R_drew)); exact HO_665004.out⟩, ⟨kb0_ BK656.out⟩, ⟨kb0_ BK664.out⟩, ⟨kb0_ BK684.out⟩, ⟨ke_ HB.out⟩⟩
               ·rw [if_neg c81] at H; exact absurd H (by simp)
              ·rw [if_neg c80] at H; exact absurd H (by simp)
             ·rw [if_neg c79] at H; have c79b0 : decide (x25_4 < (t650.length : Int)) = false := decide_eq_false c79; clear c79; replace H := Option.bind_eq_some_iff.mp H; obtain ⟨t696, A910, H⟩ := H; replace H : (if (t696 != (decide (x24_4 > 1))) = true then (none) else (laws_FnAlong.l0 k4 t665 t667 t671 t675 (wrap64 (x15_2 + 1)) t650 t653 t657 t658 t659 t660 t661)) = some r := H; have A91 := Aside0.mk A910; clear A910
              by_cases c92 : (t696 != (decide (x24_4 > 1))) = true
              ·rw [if_pos c92] at H; exact absurd H (by simp)
              ·rw [if_neg c92] at H; have c92b0 : (t696 != (decide (x24_4 > 1))) = false := by simpa using c92
               (try (have c92b1 : decide (t696 = (decide (x24_4 > 1))) = true := by simpa using c92))
               (try (have c92b2 : (t696 == (decide (x24_4 > 1))) = true := by simpa using c92))
               clear c92; have H' := Aside0.mk H; clear H; have hnb93 := NB656_664.out; have hnc93 := NB664_656.out; have hnb94 := NB656_684.out; have hnc94 := NB684_656.out; obtain ⟨hcz95_0, hcz95_1, hfz95_0, hfz95_1⟩ := cl2_ BK656.out; obtain ⟨Ao96, co96, eo96⟩ := Kd.R_slice HO_13.out; subst eo96
               go_wp2_with (first | ((with_reducible refine gate_callee (f := 30) rfl ?_); refine goesL_ (some 180) rfl rfl Try.func30 kr_ rfl #[.slice Ao96 t675.length co96, .int .i64 x15_2] rfl km_ ?_; (with_reducible refine (laws_r8Has.calls k4 _ _ t675 x15_2 t696 _ ?side1 ?side2 A91.out).mono ?_); (case side1 => repeat (first | exact (Kd.R_reads' HO_13.out).2.2 | (with_reducible first | refine Kd.C_alloc ?_ _ | refine Kd.C_drewN ?_ _ | refine Kd.C_drew ?_))); (case side2 => exact (Kd.R_reads' HO_13.out).2.1); rintro e w' ⟨rfl, ⟨nd, rfl⟩⟩; refine ⟨_, rfl, ?_⟩))
               go_roundg k4
               case measure => have := HJ10.out; have := HK2.out; have := HJ46.out; have := HK4.out; omega
               case rel => exact ⟨(wrap64 (x15_2 + 1)), ks_, H', ⟨by have := HJ10.out; have := HK2.out; have := HJ46.out; have := HK4.out; omega⟩, ⟨by (with_reducible repeat (first | apply Kd.R_alloc | apply Kd.R_drewN | apply Kd.R_drew)); exact Kd.R_mono HO_9.out (fun _ hk => ⟨hk.1, ⟨hk.2.1, hk.2.2.2⟩⟩)⟩, ⟨by (with_reducible repeat (first | apply Kd.R_alloc | apply Kd.R_drewN | apply Kd.R_drew)); exact Kd.R_mono HO_11.out (fun _ hk => ⟨hk.1, ⟨hk.2.1, hk.2.2.2⟩⟩)⟩, ⟨by (with_reducible repeat (first | apply Kd.R_alloc | apply Kd.R_drewN | apply Kd.R_drew)); exact Kd.R_mono HO_13.out (fun _ hk => ⟨hk.1, ⟨hk.2.1, hk.2.2.2⟩⟩)⟩, ⟨by (with_reducible repeat (first | apply Kd.R_alloc | apply Kd.R_drewN | apply Kd.R_drew)); exact Kd.R_mono HO_657000.out (fun _ hk => ⟨hk.1, ⟨hk.2.1, hk.2.2.1⟩⟩)⟩, ⟨by (with_reducible repeat (first | apply Kd.S_alloc | apply Kd.S_drewN | apply Kd.S_drew)); exact Kd.S_mono HO_657001.out (fun _ hk => ⟨hk.1, ⟨hk.2.1, ⟨hk.2.2.1, hk.2.2.2.2⟩⟩⟩)⟩, ⟨by (with_reducible repeat (first | apply Kd.R_alloc | apply Kd.R_drewN | apply Kd.R_drew)); exact HO_665004.out⟩, ⟨kb0_ BK656.out⟩, ⟨kb0_ BK664.out⟩, ⟨ke_ HB.out⟩⟩
       ·rw [if_neg c42] at H; have c42b0 : decide (x15_2 < t665) = false := decide_eq_false c42; clear c42; obtain rfl := Option.some.inj H
        go_wp2
        go_ret
        exact ⟨by first | rfl | (simp [errW_none, errW_some] <;> rfl) | (simp [*, errW_none, errW_some] <;> rfl) | (simp [tz_, *]; done), ke_ HB.out⟩

/-- THE ONE PURE STATEMENT of laws_FnAlong: yours. -/
def laws_FnAlong.Pure : Prop := ∀ (l0 : List Int) (l1 : List Int), l0.length ≤ maxLen → l0.length * 1 ≤ 140737488351232 → (∀ x ∈ l0, (Lit.int .u8 x).wf = true) → l1.length ≤ maxLen → l1.length * 1 ≤ 140737488351232 → (∀ x ∈ l1, (Lit.int .u8 x).wf = true) → ∃ k, laws_FnAlong.f k l0 l1 = some true
theorem laws_FnAlong.walk (P : laws_FnAlong.Pure) (a0 : Option Addr) (len0 cap0 : Nat) (z0 : List Int) (a1 : Option Addr) (len1 cap1 : Nat) (z1 : List Int) (w : World) (w0 : (a0 = none ∧ len0 = 0 ∧ cap0 = 0 ∧ z0 = []) ∨ ∃ x, a0 = some x ∧ len0 ≤ cap0 ∧ cap0 ≤ maxLen ∧ z0.length = cap0 ∧ (∀ i, i < z0.length → w.cell? (x.add i) = some (.int .u8 (z0.getD i 0))) ∧ ∀ n ∈ z0, (Lit.int .u8 n).wf = true) (y0 : len0 * 1 ≤ 140737488351232) (w1 : (a1 = none ∧ len1 = 0 ∧ cap1 = 0 ∧ z1 = []) ∨ ∃ x, a1 = some x ∧ len1 ≤ cap1 ∧ cap1 ≤ maxLen ∧ z1.length = cap1 ∧ (∀ i, i < z1.length → w.cell? (x.add i) = some (.int .u8 (z1.getD i 0))) ∧ ∀ n ∈ z1, (Lit.int .u8 n).wf = true) (y1 : len1 * 1 ≤ 140737488351232) :
  Calls Try.prog 5 #[.slice a0 len0 cap0, .slice a1 len1 cap1] w fun e w' => e = .returned (.bool true) ∧ Below w.heap.size w w' := by
 obtain ⟨l0, rfl, hr0, hm0, hw0, hc0⟩ := ReadsInt.ofRowC w0
 obtain ⟨l1, rfl, hr1, hm1, hw1, hc1⟩ := ReadsInt.ofRowC w1
 obtain ⟨k, h⟩ := P l0 l1 hm0 y0 hw0 hm1 y1 hw1
 refine (laws_FnAlong.calls k _ _ l0 _ _ l1 true w (Kd.C_of_reads (d := (0 : Int)) (h1 := fun _ => rfl) hr0) hc0 (Kd.C_of_reads (d := (0 : Int)) (h1 := fun _ => rfl) hr1) hc1 h).mono ?_
 rintro e w' ⟨rfl, hd⟩
 exact ⟨rfl, hd⟩

/- Numbers in a range, as the program asks it of a list. -/
open Go.RowKit Go.Proofs.Ytgfpbiaocokdeaa.P Go.Proofs.YtgfpbiaocokdeaaW.PrintWords Go.Proofs.YtgfpbiaocokdeaaW.PrintLast Go.Proofs.YtgfpbiaocokdeaaW.PrintMore
set_option linter.unusedVariables false
set_option linter.unusedSimpArgs false
theorem areWithin2 (a b lo hi : Int) : impl_areWithin.all lo hi [a, b] = (decide (lo ≤ a ∧ a ≤ hi) && decide (lo ≤ b ∧ b ≤ hi)) := by
  simp [impl_areWithin.all]

/- Plain facts on numbers and lists that every loop's lemma uses. -/
theorem w64 (x : Int) (h1 : -9223372036854775808 ≤ x) (h2 : x ≤ 9223372036854775807) : wrap64 x = x := by unfold wrap64; omega
theorem w64s (i : Nat) (h : i < 9223372036854775807) : wrap64 ((i : Int) + 1) = ((i + 1 : Nat) : Int) := by unfold wrap64; omega
theorem wfu8 {x : Int} (h : (Lit.int .u8 x).wf = true) : 0 ≤ x ∧ x ≤ 255 := by
  simp only [Lit.wf, IntKind.min, IntKind.max, IntKind.signed, IntKind.bits, Bool.and_eq_true, decide_eq_true_eq] at h
  simp at h
  omega
theorem rd_at (l : List Int) (i : Nat) (h : i < l.length) : rd l (i : Int) = l[i] := by
  unfold rd
  rw [Int.toNat_natCast, List.getD_eq_getElem?_getD, List.getElem?_eq_getElem h]
  rfl
theorem drop_at (l : List Int) (i : Nat) (h : i < l.length) : l.drop i = rd l (i : Int) :: l.drop (i + 1) := by
  rw [rd_at l i h, List.drop_eq_getElem_cons h]
theorem bind_some_ {α β : Type} (a : α) (f : α → Option β) : (some a).bind f = f a := rfl
theorem ite_tt (b r : Bool) : (if b = true then some r else some false) = some (b && r) := by cases b <;> rfl
theorem ite_ff (p : Prop) [Decidable p] (r : Bool) : (if p then some false else some r) = some (!decide p && r) := by by_cases h : p <;> simp [h]
theorem not_ge_dec (a b : Int) : (!decide (a ≥ b)) = decide (a < b) := by by_cases h : a < b <;> simp [h] <;> omega

/- A number lies in a range, as the reference asks it. -/
theorem in_is (a b c : Int) : spec_l00In.f a b c = some (decide (b ≤ a ∧ a ≤ c)) := by
  unfold spec_l00In.f
  by_cases h : b ≤ a <;> simp [h]

/- The poses of an axis and what is asked of it, plainly. -/
def nextP (p : S44) (t : S124) : S44 := ⟨wrap64 (p.f0 + p.f2), wrap64 (p.f1 + p.f3), wrap64 (p.f2 + t.f1), wrap64 (p.f3 + t.f2)⟩
def walkT (p : S44) : List S124 → List S44
  | [] => []
  | t :: ts => nextP p t :: walkT (nextP p t) ts
def endT (p : S44) : List S124 → S44
  | [] => p
  | t :: ts => endT (nextP p t) ts
def repsT (n : Nat) (c : S124) : List S124 := List.replicate n ⟨1, c.f1, c.f2⟩
def turnsOf : List S124 → List S124
  | [] => []
  | c :: cs => repsT c.f0.toNat c ++ turnsOf cs
theorem walkT_append (b : List S124) : ∀ (a : List S124) (p : S44), walkT p (a ++ b) = walkT p a ++ walkT (endT p a) b
  | [], p => rfl
  | t :: a, p => by simp only [List.cons_append, walkT, endT, walkT_append b a]
theorem walkT_len : ∀ (a : List S124) (p : S44), (walkT p a).length = a.length
  | [], p => rfl
  | t :: a, p => by simp only [walkT, List.length_cons, walkT_len a]
theorem walkT_end : ∀ (a : List S124) (p : S44), ∃ pre : List S44, p :: walkT p a = pre ++ [endT p a] ∧ pre.length = a.length
  | [], p => ⟨[], rfl, rfl⟩
  | t :: a, p => by
    obtain ⟨pre, h1, h2⟩ := walkT_end a (nextP p t)
    exact ⟨p :: pre, by simp only [walkT, endT, h1, List.cons_append], by simp [h2]⟩
def poseOk (p : S44) : Bool := (decide (-100000 ≤ p.f0 ∧ p.f0 ≤ 100000) && decide (-100000 ≤ p.f1 ∧ p.f1 ≤ 100000)) && (decide (-400 ≤ p.f2 ∧ p.f2 ≤ 400) && decide (-400 ≤ p.f3 ∧ p.f3 ≤ 400))
def turnOk (a b : Int) : Bool := decide (-12 ≤ a ∧ a ≤ 12) && decide (-12 ≤ b ∧ b ≤ 12)
def curvesOk : List S124 → Int → S44 → Bool
  | [], _, _ => true
  | c :: cs, n, p => (decide (1 ≤ c.f0 ∧ c.f0 ≤ 60 - n) && turnOk c.f1 c.f2) && ((walkT p (repsT c.f0.toNat c)).all poseOk && curvesOk cs (n + c.f0) (endT p (repsT c.f0.toNat c)))
def axOk (p : S44) (cs : List S124) : Bool := poseOk p && (decide (1 ≤ (cs.length : Int) ∧ (cs.length : Int) ≤ 8) && curvesOk cs 0 p)
def posesOf (p : S44) (cs : List S124) : List S44 := p :: walkT p (turnsOf cs)
theorem implPose_is (a b c d : Int) : impl_ValidPose.f a b c d = some (poseOk ⟨a, b, c, d⟩) := by
  unfold impl_ValidPose.f impl_areWithin.f poseOk
  rw [bind_some_, bind_some_, areWithin2, areWithin2]
  dsimp only
  cases (decide (-100000 ≤ a ∧ a ≤ 100000) && decide (-100000 ≤ b ∧ b ≤ 100000)) <;> simp
theorem specPose_is (a b c d : Int) : spec_l02Pose.f a b c d = some (poseOk ⟨a, b, c, d⟩) := by
  unfold spec_l02Pose.f poseOk
  simp only [in_is, bind_some_]
  cases decide (-100000 ≤ a ∧ a ≤ 100000) <;> cases decide (-100000 ≤ b ∧ b ≤ 100000) <;> cases decide (-400 ≤ c ∧ c ≤ 400) <;> simp
theorem implTurn_is (a b : Int) : impl_isTurn.f a b = some (turnOk a b) := by
  unfold impl_isTurn.f impl_areWithin.f turnOk
  rw [bind_some_, areWithin2]
theorem specTurn_is (a b : Int) : spec_l02Turn.f a b = some (turnOk a b) := by
  unfold spec_l02Turn.f turnOk
  simp only [in_is, bind_some_]
  cases decide (-12 ≤ a ∧ a ≤ 12) <;> simp
theorem rdPose_at (l : List S44) (i : Nat) (h : i < l.length) : rd_T44 l (i : Int) = l[i] := by
  unfold rd_T44
  rw [Int.toNat_natCast, List.getD_eq_getElem?_getD, List.getElem?_eq_getElem h]
  rfl
theorem rdPose_last (pre : List S44) (p : S44) : rd_T44 (pre ++ [p]) (pre.length : Int) = p := by
  rw [rdPose_at _ _ (by simp)]
  simp
theorem curves_short : ∀ (cs : List S124) (n : Int) (p : S44), 0 ≤ n → curvesOk cs n p = true → (∀ c ∈ cs, 1 ≤ c.f0 ∧ c.f0 ≤ 60) ∧ (n ≤ 60 → ((turnsOf cs).length : Int) + n ≤ 60)
  | [], n, p, _, _ => ⟨by simp, fun h => by simp [turnsOf]; omega⟩
  | c :: cs, n, p, hn, h => by
    simp only [curvesOk, Bool.and_eq_true, decide_eq_true_eq] at h
    obtain ⟨⟨h1, _⟩, _, h2⟩ := h
    obtain ⟨i1, i2⟩ := curves_short cs (n + c.f0) _ (by omega) h2
    refine ⟨?_, fun h3 => ?_⟩
    · intro x hx
      rcases List.mem_cons.mp hx with e | e
      · rw [e]; omega
      · exact i1 x e
    · have := i2 (by omega)
      simp only [turnsOf, List.length_append, repsT, List.length_replicate]
      omega
theorem repsT_succ (d : Nat) (c : S124) : repsT (d + 1) c = ⟨1, c.f1, c.f2⟩ :: repsT d c := rfl
theorem curvesOk_cons (c : S124) (cs : List S124) (n : Int) (p : S44) : curvesOk (c :: cs) n p = ((decide (1 ≤ c.f0 ∧ c.f0 ≤ 60 - n) && turnOk c.f1 c.f2) && ((walkT p (repsT c.f0.toNat c)).all poseOk && curvesOk cs (n + c.f0) (endT p (repsT c.f0.toNat c)))) := rfl

/- A test at each of some numbers that follow one another. -/
def upTo (p : Nat → Bool) : Nat → Nat → Bool
  | 0, _ => true
  | d + 1, i => p i && upTo p d (i + 1)
theorem upTo_iff (p : Nat → Bool) : ∀ (d i : Nat), upTo p d i = true ↔ ∀ j, i ≤ j → j < i + d → p j = true := by
  intro d
  induction d with
  | zero => intro i; simp [upTo]; intro j h1 h2; omega
  | succ d ih =>
    intro i
    simp only [upTo, Bool.and_eq_true, ih]
    constructor
    · intro ⟨h0, h⟩ j h1 h2
      by_cases e : i = j
      · rw [← e]; exact h0
      · exact h j (by omega) (by omega)
    · intro h
      exact ⟨h i (Nat.le_refl _) (by omega), fun j h1 h2 => h j (by omega) (by omega)⟩

/- What is asked of a ground, and the tops of its classes, plainly. -/
def dnOk (l : List Int) (i : Nat) : Bool := decide (i = 0) || decide (rd l (i : Int) ≤ rd l ((i - 1 : Nat) : Int))
def topsOk (n : Int) (l : List Int) : Bool := decide ((l.length : Int) = n) && (impl_areWithin.all (-100000) 100000 l && upTo (dnOk l) l.length 0)
def holeOk (n : Int) (hs : List S59) (i : Nat) : Bool := decide (0 ≤ (rd_T59 hs (i : Int)).f0 ∧ (rd_T59 hs (i : Int)).f0 ≤ 60) && (topsOk n (rd_T59 hs (i : Int)).f1 && (decide (i = 0) || decide ((rd_T59 hs ((i - 1 : Nat) : Int)).f0 < (rd_T59 hs (i : Int)).f0)))
def grOk (ds : List Int) (hs : List S59) : Bool := decide (1 ≤ (ds.length : Int) ∧ (ds.length : Int) ≤ 4) && (impl_areWithin.all 1 3000 ds && (decide (1 ≤ (hs.length : Int) ∧ (hs.length : Int) ≤ 6) && upTo (holeOk ds.length hs) hs.length 0))
theorem all_upTo (lo hi : Int) (l : List Int) : impl_areWithin.all lo hi l = upTo (fun i => decide (lo ≤ rd l (i : Int) ∧ rd l (i : Int) ≤ hi)) l.length 0 := by
  rw [Bool.eq_iff_iff, upTo_iff]
  unfold impl_areWithin.all
  rw [List.all_eq_true]
  constructor
  · intro h j _ hj
    have hj2 : j < l.length := by omega
    have := h _ (List.getElem_mem hj2)
    rw [rd_at l j hj2]
    exact this
  · intro h x hx
    obtain ⟨j, hj, rfl⟩ := List.getElem_of_mem hx
    have := h j (by omega) (by omega)
    rw [rd_at l j hj] at this
    exact this
theorem grOk_in {ds : List Int} {hs : List S59} (h : grOk ds hs = true) : (1 ≤ ds.length ∧ ds.length ≤ 4) ∧ (1 ≤ hs.length ∧ hs.length ≤ 6) ∧ (∀ i : Nat, i < ds.length → 1 ≤ rd ds (i : Int) ∧ rd ds (i : Int) ≤ 3000) ∧ ∀ i : Nat, i < hs.length → holeOk ds.length hs i = true := by
  unfold grOk at h
  rw [all_upTo] at h
  simp only [Bool.and_eq_true, decide_eq_true_eq] at h
  obtain ⟨h1, h2, h3, h4⟩ := h
  refine ⟨by omega, by omega, ?_, ?_⟩
  · intro i hi
    have := (upTo_iff _ _ _).mp h2 i (by omega) (by omega)
    simpa using this
  · intro i hi
    exact (upTo_iff _ _ _).mp h4 i (by omega) (by omega)
theorem holeOk_in {n : Int} {hs : List S59} {i : Nat} (h : holeOk n hs i = true) : (0 ≤ (rd_T59 hs (i : Int)).f0 ∧ (rd_T59 hs (i : Int)).f0 ≤ 60) ∧ ((rd_T59 hs (i : Int)).f1.length : Int) = n ∧ (0 < i → (rd_T59 hs ((i - 1 : Nat) : Int)).f0 < (rd_T59 hs (i : Int)).f0) := by
  unfold holeOk topsOk at h
  simp only [Bool.and_eq_true, Bool.or_eq_true, decide_eq_true_eq] at h
  refine ⟨h.1, h.2.1.1, ?_⟩
  intro hi
  rcases h.2.2 with h2 | h2
  · omega
  · exact h2

/- An element of a list of structs, read at an index. -/
theorem rdCurve_at (l : List S124) (i : Nat) (h : i < l.length) : rd_T124 l (i : Int) = l[i] := by
  unfold rd_T124
  rw [Int.toNat_natCast, List.getD_eq_getElem?_getD, List.getElem?_eq_getElem h]
  rfl
theorem dropCurve_at (l : List S124) (i : Nat) (h : i < l.length) : l.drop i = rd_T124 l (i : Int) :: l.drop (i + 1) := by
  rw [rdCurve_at l i h, List.drop_eq_getElem_cons h]

/- A number lies in a range, as the program asks it. -/
theorem within_is (a b c : Int) : impl_within.f a b c = some (decide (b ≤ a ∧ a ≤ c)) := by
  unfold impl_within.f
  by_cases h : b ≤ a <;> simp [h]

/- The poses of an axis, as the program reckons them. -/
theorem implAx_l1 (cs : List S124) (m : Int) (c : S124) (h1 : 1 ≤ c.f0) (i : Int) : ∀ (d k j : Nat) (pre : List S44) (p : S44), j + d = c.f0.toNat → c.f0 ≤ 60 → d < k → pre.length + d ≤ 1000 → impl_Axis_poses.l1 k (pre ++ [p]) cs m i c.f0 j c.f0 c.f1 c.f2 = if (walkT p (repsT d c)).all poseOk = true then impl_Axis_poses.l0 (k - (d + 1)) (pre ++ p :: walkT p (repsT d c)) cs m (wrap64 (i + 1)) else some ([], false) := by
  intro d
  induction d with
  | zero =>
    intro k j pre p hj h60 hk hl
    obtain ⟨k, rfl⟩ : ∃ m, k = m + 1 := ⟨k - 1, by omega⟩
    simp only [impl_Axis_poses.l1]
    rw [if_neg (by omega)]
    simp [repsT, walkT]
  | succ d ih =>
    intro k j pre p hj h60 hk hl
    obtain ⟨k, rfl⟩ : ∃ m, k = m + 1 := ⟨k - 1, by omega⟩
    have e : wrap64 (((pre ++ [p]).length : Int) - 1) = (pre.length : Int) := by
      rw [List.length_append, List.length_singleton, w64 _ (by omega) (by omega)]
      omega
    have hlen : (pre ++ [p]).length = pre.length + 1 := by simp
    simp only [impl_Axis_poses.l1, e, rdPose_last, impl_Pose_next.f, bind_some_, implPose_is]
    rw [if_pos (by omega), if_pos (by omega), if_pos (by omega), repsT_succ]
    have hq : nextP p ⟨1, c.f1, c.f2⟩ = ⟨wrap64 (p.f0 + p.f2), wrap64 (p.f1 + p.f3), wrap64 (p.f2 + c.f1), wrap64 (p.f3 + c.f2)⟩ := rfl
    simp only [walkT, List.all_cons, Bool.and_eq_true]
    rw [← hq]
    by_cases q : poseOk (nextP p ⟨1, c.f1, c.f2⟩) = true
    · rw [if_pos q, if_pos (by omega), w64s j (by omega), ih k (j + 1) (pre ++ [p]) (nextP p ⟨1, c.f1, c.f2⟩) (by omega) h60 (by omega) (by omega)]
      simp only [q, true_and, List.append_assoc, List.singleton_append, Nat.add_sub_add_right]
    · rw [if_neg q, if_neg (by simp [q])]
theorem implAx_l0 (cs : List S124) (h8 : cs.length ≤ 8) : ∀ (d k i : Nat) (pre : List S44) (p : S44), i + d = cs.length → 100 * d + 2 < k → pre.length ≤ 60 → impl_Axis_poses.l0 k (pre ++ [p]) cs cs.length i = some (if curvesOk (cs.drop i) pre.length p = true then (pre ++ p :: walkT p (turnsOf (cs.drop i)), true) else ([], false)) := by
  intro d
  induction d with
  | zero =>
    intro k i pre p hi hk hl
    obtain ⟨k, rfl⟩ : ∃ m, k = m + 1 := ⟨k - 1, by omega⟩
    simp only [impl_Axis_poses.l0]
    rw [if_neg (by omega), List.drop_of_length_le (by omega)]
    simp [curvesOk, turnsOf, walkT]
  | succ d ih =>
    intro k i pre p hi hk hl
    obtain ⟨k, rfl⟩ : ∃ m, k = m + 2 := ⟨k - 2, by omega⟩
    rw [dropCurve_at cs i (by omega)]
    generalize hc : rd_T124 cs (i : Int) = c
    have hlen : (pre ++ [p]).length = pre.length + 1 := by simp
    simp only [impl_Axis_poses.l0, turnsOf]
    rw [curvesOk_cons, if_pos (by omega), if_pos (by omega), if_pos (by omega), hc, within_is, bind_some_, implTurn_is, bind_some_]
    by_cases g : (1 ≤ c.f0 ∧ c.f0 ≤ 60 - (pre.length : Int)) ∧ turnOk c.f1 c.f2 = true
    · rw [if_pos (decide_eq_true (by omega)), if_pos g.2, w64 _ (by omega) (by omega), decide_eq_false (by omega)]
      simp only [impl_Axis_poses.j2]
      rw [if_neg (by simp)]
      have hz := implAx_l1 cs cs.length c g.1.1 i c.f0.toNat k 0 pre p (by omega) (by omega) (by omega) (by omega)
      rw [show ((0 : Nat) : Int) = 0 from rfl] at hz
      rw [hz, decide_eq_true g.1, g.2]
      simp only [Bool.true_and]
      by_cases q : (walkT p (repsT c.f0.toNat c)).all poseOk = true
      · obtain ⟨pre2, e1, e2⟩ := walkT_end (repsT c.f0.toNat c) p
        have e3 : (repsT c.f0.toNat c).length = c.f0.toNat := by simp [repsT]
        rw [if_pos q, e1, ← List.append_assoc, w64s i (by omega), ih (k - (c.f0.toNat + 1)) (i + 1) (pre ++ pre2) _ (by omega) (by omega) (by rw [List.length_append]; omega), q, Bool.true_and, walkT_append]
        have e4 : (((pre ++ pre2).length : Nat) : Int) = (pre.length : Int) + c.f0 := by rw [List.length_append]; omega
        rw [e4, ← List.cons_append, e1]
        simp only [List.append_assoc, List.cons_append, List.nil_append]
      · rw [if_neg q, if_neg (by simp [q])]
    · have hb : (decide (1 ≤ c.f0 ∧ c.f0 ≤ 60 - (pre.length : Int)) && turnOk c.f1 c.f2) = false := by
        rw [Bool.eq_false_iff]
        intro hh
        rw [Bool.and_eq_true, decide_eq_true_eq] at hh
        exact g hh
      rw [hb, Bool.false_and, if_neg (show ¬ (false = true) by simp)]
      by_cases c1 : 1 ≤ c.f0 ∧ c.f0 ≤ 60
      · rw [if_pos (decide_eq_true c1)]
        by_cases c2 : turnOk c.f1 c.f2 = true
        · have c3 : ¬ (1 ≤ c.f0 ∧ c.f0 ≤ 60 - (pre.length : Int)) := fun hh => g ⟨hh, c2⟩
          rw [if_pos c2, w64 _ (by omega) (by omega), decide_eq_true (by omega)]
          simp only [impl_Axis_poses.j2]
          rw [if_pos trivial]
        · rw [if_neg c2]
          simp only [impl_Axis_poses.j2]
          rw [if_pos trivial]
      · rw [if_neg (by simpa using c1)]
        simp only [impl_Axis_poses.j2]
        rw [if_pos trivial]
theorem implAxis_is (k : Nat) (a b u v : Int) (cs : List S124) (hb : cs.length ≤ 1048576) (hk : 5000 < k) : impl_Axis_poses.f k a b u v cs = some (if axOk ⟨a, b, u, v⟩ cs = true then (posesOf ⟨a, b, u, v⟩ cs, true) else ([], false)) := by
  obtain ⟨k, rfl⟩ : ∃ m, k = m + 1 := ⟨k - 1, by omega⟩
  unfold impl_Axis_poses.f axOk posesOf
  rw [bind_some_, implPose_is, bind_some_, within_is, bind_some_]
  by_cases c1 : poseOk ⟨a, b, u, v⟩ = true
  · rw [if_pos c1, c1, Bool.true_and]
    by_cases c2 : 1 ≤ (cs.length : Int) ∧ (cs.length : Int) ≤ 8
    · simp only [impl_Axis_poses.j0]
      rw [decide_eq_true c2, if_neg (by simp), Bool.true_and]
      have hz := implAx_l0 cs (by omega) cs.length k 0 [] ⟨a, b, u, v⟩ (by omega) (by omega) (by simp)
      simpa using hz
    · simp only [impl_Axis_poses.j0]
      rw [decide_eq_false c2, if_pos (by simp), Bool.false_and, if_neg (by simp)]
  · simp only [impl_Axis_poses.j0]
    rw [if_neg c1, if_pos trivial, if_neg (by simp [c1])]


def spec_l00Own.f (l0 : List Int) : Option (List Int) := (some (([] : List Int) : List Int)).bind fun y125 => (if y125.length + l0.length < 17592186044416 then (some (y125 ++ l0)) else (none))
/- Two lists of numbers are compared. -/
/- A list of numbers is copied. -/

def spec_l06Tops.l0 : Nat → List Int → Int → Int → Option (Bool)
 | 0, _, _, _ => none
 | k + 1, x0, x1, x5 => if x5 < (x0.length : Int) then (if 0 ≤ x5 then ((spec_l00In.f (rd x0 x5) (-100000) 100000).bind fun t109 => (if t109 = true then (if x5 > 0 then (if 0 ≤ (wrap64 (x5 - 1)) then (if (wrap64 (x5 - 1)) < (x0.length : Int) then (if (rd x0 (wrap64 (x5 - 1))) < (rd x0 x5) then (some false) else (spec_l06Tops.l0 k x0 x1 (wrap64 (x5 + 1)))) else (none)) else (none)) else (spec_l06Tops.l0 k x0 x1 (wrap64 (x5 + 1)))) else (some false))) else (none)) else (some ((x0.length : Int) == x1))
def spec_l06Tops.f (k : Nat) (l0 : List Int) (a1 : Int) : Option (Bool) := spec_l06Tops.l0 k l0 a1 0

/- A list of the law's own structs that hold lists is copied into the program's, measured, and equal to itself. -/
theorem rdHole_at (l : List S59) (i : Nat) (h : i < l.length) : rd_T59 l (i : Int) = l[i] := by
  unfold rd_T59
  rw [Int.toNat_natCast, List.getD_eq_getElem?_getD, List.getElem?_eq_getElem h]
  rfl
def shortH (l : List S59) : Prop := l.length ≤ 1048576 ∧ ∀ s ∈ l, s.f1.length ≤ 1048576
theorem shortH_at {l : List S59} (h : shortH l) (i : Nat) (hi : i < l.length) : (rd_T59 l (i : Int)).f1.length ≤ 1048576 := by
  rw [rdHole_at l i hi]
  exact h.2 _ (List.getElem_mem hi)
/- What the program asks of a ground. -/
theorem implHole_l0 (l : List Int) (a : Int) (hb : l.length ≤ 1048576) : ∀ (d k i : Nat), i + d = l.length → 1 ≤ i → d < k → impl_isHole.l0 k l.length i a l = some (upTo (dnOk l) d i) := by
  intro d
  induction d with
  | zero =>
    intro k i hi h1 hk
    obtain ⟨k, rfl⟩ : ∃ m, k = m + 1 := ⟨k - 1, by omega⟩
    simp only [impl_isHole.l0]
    rw [if_neg (by omega)]
    rfl
  | succ d ih =>
    intro k i hi h1 hk
    obtain ⟨k, rfl⟩ : ∃ m, k = m + 1 := ⟨k - 1, by omega⟩
    have e : wrap64 ((i : Int) - 1) = ((i - 1 : Nat) : Int) := by rw [w64 _ (by omega) (by omega)]; omega
    simp only [impl_isHole.l0]
    rw [if_pos (by omega), if_pos (by omega), if_pos (by omega), e, if_pos (by omega), if_pos (by omega), w64s i (by omega), ih k (i + 1) (by omega) (by omega) (by omega)]
    simp only [upTo, dnOk]
    rw [decide_eq_false (show ¬ i = 0 by omega), Bool.false_or]
    by_cases c : rd l (i : Int) > rd l ((i - 1 : Nat) : Int)
    · rw [if_pos c, decide_eq_false (show ¬ rd l (i : Int) ≤ rd l ((i - 1 : Nat) : Int) by omega)]
      rfl
    · rw [if_neg c, decide_eq_true (show rd l (i : Int) ≤ rd l ((i - 1 : Nat) : Int) by omega)]
      rfl
theorem implHole_is (k : Nat) (r n : Int) (l : List Int) (hb : l.length ≤ 1048576) (hk : l.length + 3 < k) : impl_isHole.f k r l n = some (decide (0 ≤ r ∧ r ≤ 60) && topsOk n l) := by
  obtain ⟨k, rfl⟩ : ∃ m, k = m + 1 := ⟨k - 1, by omega⟩
  unfold impl_isHole.f topsOk impl_areWithin.f
  rw [within_is, bind_some_, bind_some_]
  simp only [impl_isHole.j0]
  by_cases h1 : 0 ≤ r ∧ r ≤ 60
  · rw [if_pos (decide_eq_true h1), decide_eq_true h1]
    by_cases h2 : (l.length : Int) = n
    · rw [if_pos h2, decide_eq_true h2]
      cases h3 : impl_areWithin.all (-100000) 100000 l with
      | true =>
        rw [if_neg (by simp)]
        subst h2
        rcases Nat.eq_zero_or_pos l.length with h0 | h0
        · obtain ⟨k, rfl⟩ : ∃ m, k = m + 1 := ⟨k - 1, by omega⟩
          simp only [impl_isHole.l0]
          rw [if_neg (by omega), h0]
          rfl
        · have h4 := implHole_l0 l r hb (l.length - 1) k 1 (by omega) (by omega) (by omega)
          have h5 : upTo (dnOk l) l.length 0 = upTo (dnOk l) (l.length - 1) 1 := by
            obtain ⟨m, hm⟩ : ∃ m, l.length = m + 1 := ⟨l.length - 1, by omega⟩
            rw [hm]
            simp [upTo, dnOk]
          rw [h5]
          simp only [Bool.true_and]
          exact h4
      | false => simp
    · rw [if_neg h2, decide_eq_false h2]
      simp
  · rw [if_neg (by simpa using h1), decide_eq_false h1]
    simp
theorem implGround_l0 (ds : List Int) (hs : List S59) (hp : shortH hs) : ∀ (d k i : Nat), i + d = hs.length → d + 1048580 < k → impl_ValidGround.l0 k hs hs.length i ds hs = some (upTo (holeOk ds.length hs) d i) := by
  intro d
  have hb := hp.1
  induction d with
  | zero =>
    intro k i hi hk
    obtain ⟨k, rfl⟩ : ∃ m, k = m + 1 := ⟨k - 1, by omega⟩
    simp only [impl_ValidGround.l0]
    rw [if_neg (by omega)]
    rfl
  | succ d ih =>
    intro k i hi hk
    obtain ⟨k, rfl⟩ : ∃ m, k = m + 1 := ⟨k - 1, by omega⟩
    have h1 := shortH_at hp i (by omega)
    have hz := ih k (i + 1) (by omega) (by omega)
    simp only [impl_ValidGround.l0]
    rw [if_pos (by omega), if_pos (by omega), if_pos (by omega), implHole_is k _ _ _ h1 (by omega), bind_some_, w64s i (by omega), hz]
    simp only [upTo, holeOk]
    by_cases h : i = 0
    · rw [if_neg (show ¬ (i : Int) > 0 by omega), decide_eq_true h, ite_tt]
      simp [Bool.and_assoc]
    · have e : wrap64 ((i : Int) - 1) = ((i - 1 : Nat) : Int) := by rw [w64 _ (by omega) (by omega)]; omega
      rw [if_pos (show (i : Int) > 0 by omega), e, if_pos (show (0 : Int) ≤ ((i - 1 : Nat) : Int) by omega), if_pos (show ((i - 1 : Nat) : Int) < (hs.length : Int) by omega), ite_ff, not_ge_dec, ite_tt, decide_eq_false h, Bool.false_or]
      simp only [Bool.and_assoc]
theorem implGround_is (k : Nat) (ds : List Int) (hs : List S59) (hp : shortH hs) (hk : 3000000 < k) : impl_ValidGround.f k ds hs = some (grOk ds hs) := by
  have hb := hp.1
  obtain ⟨k, rfl⟩ : ∃ m, k = m + 1 := ⟨k - 1, by omega⟩
  have h0 := implGround_l0 ds hs hp hs.length k 0 (by omega) (by omega)
  unfold impl_ValidGround.f grOk impl_areWithin.f
  rw [within_is, bind_some_, bind_some_, within_is, bind_some_]
  simp only [impl_ValidGround.j0]
  rw [show ((0 : Nat) : Int) = 0 from rfl] at h0
  rw [h0]
  generalize upTo (holeOk (ds.length : Int) hs) hs.length 0 = b1
  generalize impl_areWithin.all 1 3000 ds = b2
  generalize decide (1 ≤ (ds.length : Int) ∧ (ds.length : Int) ≤ 4) = b3
  generalize decide (1 ≤ (hs.length : Int) ∧ (hs.length : Int) ≤ 6) = b4
  cases b1 <;> cases b2 <;> cases b3 <;> cases b4 <;> rfl

/- The rings along an axis, ring for ring, as both sides reckon them. -/
def alongGo (g : Int → Int → Int) (P : List S44) : Nat → Nat → List Int
  | 0, _ => []
  | d + 1, i => g (i : Int) (rd_T44 P (i : Int)).f1 :: alongGo g P d (i + 1)
theorem alongGo_len (g : Int → Int → Int) (P : List S44) : ∀ d i : Nat, (alongGo g P d i).length = d
  | 0, _ => rfl
  | d + 1, i => by simp only [alongGo, List.length_cons, alongGo_len g P d (i + 1)]
def alongP (g : List S44 → List Int) (ds : List Int) (hs : List S59) (p : S44) (cs : List S124) : List Int × Bool := if (grOk ds hs && axOk p cs) = true then (g (posesOf p cs), true) else ([], false)
theorem posesOf_len {p : S44} {cs : List S124} (h : axOk p cs = true) : 1 ≤ (posesOf p cs).length ∧ (posesOf p cs).length ≤ 61 := by
  unfold axOk at h
  simp only [Bool.and_eq_true, decide_eq_true_eq] at h
  obtain ⟨_, _, h3⟩ := h
  have := (curves_short cs 0 _ (by omega) h3).2 (by omega)
  unfold posesOf
  rw [List.length_cons, walkT_len]
  omega
theorem rdPose_take (P : List S44) (n i : Nat) (h : i < n) (hn : n ≤ P.length) : rd_T44 (P.take n) (i : Int) = rd_T44 P (i : Int) := by
  rw [rdPose_at _ i (by rw [List.length_take]; omega), rdPose_at _ i (by omega), List.getElem_take]
theorem implAlong_is (k : Nat) (ds : List Int) (hs : List S59) (a b u v : Int) (cs : List S124) (hp : shortH hs) (hb : cs.length ≤ 1048576) (hk : 5000000 < k) : impl_along.f k ds hs a b u v cs = some (if (grOk ds hs && axOk ⟨a, b, u, v⟩ cs) = true then ((posesOf ⟨a, b, u, v⟩ cs).take ((posesOf ⟨a, b, u, v⟩ cs).length - 1), true) else ([], false)) := by
  unfold impl_along.f
  rw [implAxis_is k a b u v cs hb (by omega), bind_some_]
  by_cases c1 : axOk ⟨a, b, u, v⟩ cs = true
  · have hl := posesOf_len c1
    rw [if_pos c1]
    try dsimp only
    rw [if_pos rfl, implGround_is k ds hs hp (by omega), bind_some_, c1, Bool.and_true]
    by_cases c2 : grOk ds hs = true
    · have e : wrap64 (((posesOf ⟨a, b, u, v⟩ cs).length : Int) - 1) = (((posesOf ⟨a, b, u, v⟩ cs).length - 1 : Nat) : Int) := by rw [w64 _ (by omega) (by omega)]; omega
      rw [if_pos c2, if_pos c2, e, if_pos (by omega), if_pos (by omega), Int.toNat_natCast]
    · rw [if_neg c2, if_neg c2]
  · rw [if_neg c1]
    try dsimp only
    rw [if_neg (by simp), if_neg (by simp [c1])]

/- The tops of a ground's classes at a ring, plainly. -/
def floorV (a b : Int) : Int := if Int.tmod a b < 0 then wrap64 (wrap64 (Int.tdiv a b) - 1) else wrap64 (Int.tdiv a b)
def interV (xr yr a p q : Int) : Int := wrap64 (p + floorV (wrap64 (wrap64 (q - p) * wrap64 (a - xr))) (wrap64 (yr - xr)))
def inter (xr yr a : Int) (xt yt : List Int) : Nat → Nat → List Int
  | 0, _ => []
  | d + 1, i => interV xr yr a (rd xt (i : Int)) (rd yt (i : Int)) :: inter xr yr a xt yt d (i + 1)
theorem inter_len (xr yr a : Int) (xt yt : List Int) : ∀ d i : Nat, (inter xr yr a xt yt d i).length = d
  | 0, _ => rfl
  | d + 1, i => by simp [inter, inter_len xr yr a xt yt d (i + 1)]
def topsAt (hs : List S59) (a : Int) : List Int :=
  if holeIx a hs 0 < 0 then (rd_T59 hs ((hs.length - 1 : Nat) : Int)).f1
  else if holeIx a hs 0 = 0 ∨ (rd_T59 hs (holeIx a hs 0)).f0 = a then (rd_T59 hs (holeIx a hs 0)).f1
  else inter (rd_T59 hs (((holeIx a hs 0).toNat - 1 : Nat) : Int)).f0 (rd_T59 hs (holeIx a hs 0)).f0 a (rd_T59 hs (((holeIx a hs 0).toNat - 1 : Nat) : Int)).f1 (rd_T59 hs (holeIx a hs 0)).f1 (rd_T59 hs (((holeIx a hs 0).toNat - 1 : Nat) : Int)).f1.length 0
theorem holeIx_go (a : Int) : ∀ (l : List S59) (i : Int), (holeIx a l i = -1 ∧ ∀ h ∈ l, h.f0 < a) ∨ ∃ j : Nat, ∃ hj : j < l.length, holeIx a l i = i + j ∧ a ≤ l[j].f0 ∧ ∀ m : Nat, ∀ hm : m < j, (l[m]'(by omega)).f0 < a
  | [], i => Or.inl ⟨rfl, by simp⟩
  | h :: l, i => by
    simp only [holeIx]
    by_cases c : h.f0 ≥ a
    · rw [if_pos c]
      exact Or.inr ⟨0, by simp, by simp, c, fun m hm => by omega⟩
    · rw [if_neg c]
      rcases holeIx_go a l (i + 1) with ⟨h1, h2⟩ | ⟨j, hj, h1, h2, h3⟩
      · refine Or.inl ⟨h1, ?_⟩
        intro q hq
        rcases List.mem_cons.mp hq with e | e
        · rw [e]; omega
        · exact h2 q e
      · refine Or.inr ⟨j + 1, by simp; omega, by rw [h1]; omega, by simpa using h2, ?_⟩
        intro m hm
        cases m with
        | zero => simp; omega
        | succ m => simpa using h3 m (by omega)
theorem holeIx_is (a : Int) (l : List S59) : (holeIx a l 0 = -1 ∧ ∀ i : Nat, i < l.length → (rd_T59 l (i : Int)).f0 < a) ∨ ∃ j : Nat, j < l.length ∧ holeIx a l 0 = j ∧ a ≤ (rd_T59 l (j : Int)).f0 ∧ ∀ m : Nat, m < j → (rd_T59 l (m : Int)).f0 < a := by
  rcases holeIx_go a l 0 with ⟨h1, h2⟩ | ⟨j, hj, h1, h2, h3⟩
  · refine Or.inl ⟨h1, ?_⟩
    intro i hi
    rw [rdHole_at l i hi]
    exact h2 _ (List.getElem_mem hi)
  · refine Or.inr ⟨j, hj, by rw [h1]; omega, by rw [rdHole_at l j hj]; exact h2, ?_⟩
    intro m hm
    rw [rdHole_at l m (by omega)]
    exact h3 m hm
theorem topsAt_len {ds : List Int} {hs : List S59} (h : grOk ds hs = true) (a : Int) : (topsAt hs a).length = ds.length := by
  obtain ⟨h1, h2, h3, h4⟩ := grOk_in h
  have hl : ∀ i : Nat, i < hs.length → (rd_T59 hs (i : Int)).f1.length = ds.length := fun i hi => by
    have := (holeOk_in (h4 i hi)).2.1
    omega
  unfold topsAt
  rcases holeIx_is a hs with ⟨e, _⟩ | ⟨j, hj, e, _, _⟩
  · rw [e, if_pos (by omega)]
    exact hl _ (by omega)
  · rw [e, if_neg (by omega)]
    split
    · exact hl j hj
    · rw [inter_len, Int.toNat_natCast]
      exact hl _ (by omega)

/- The tops of the classes at a ring, as the program reckons them. -/
theorem clone_is (l : List Int) (hb : l.length ≤ 1048576) : slices_Clone_int64_int64.f l = some l := by
  unfold slices_Clone_int64_int64.f
  rw [if_pos (by omega)]
theorem implInter_l0 (xr yr a : Int) (xt yt : List Int) (hl : yt.length = xt.length) (hb : xt.length ≤ 1048576) (hne : wrap64 (yr - xr) ≠ 0) (acc0 : List Int) :
    ∀ (d k c : Nat) (acc : List Int), c + d = xt.length → d < k → acc.length = c → impl_Ground_tops.l0 k acc xt xt.length c a xr xt yr yt = some (acc ++ inter xr yr a xt yt d c) := by
  intro d
  induction d with
  | zero =>
    intro k c acc hc hk ha
    obtain ⟨k, rfl⟩ : ∃ m, k = m + 1 := ⟨k - 1, by omega⟩
    simp only [impl_Ground_tops.l0, inter]
    rw [if_neg (by omega), List.append_nil]
  | succ d ih =>
    intro k c acc hc hk ha
    obtain ⟨k, rfl⟩ : ∃ m, k = m + 1 := ⟨k - 1, by omega⟩
    have hz := ih k (c + 1) (acc ++ [interV xr yr a (rd xt (c : Int)) (rd yt (c : Int))]) (by omega) (by omega) (by simp; omega)
    have e : ∀ u : Int, impl_floorOf.f u (wrap64 (yr - xr)) = some (floorV u (wrap64 (yr - xr))) := by
      intro u
      unfold impl_floorOf.f floorV
      rw [if_neg hne]
      split <;> rfl
    simp only [impl_Ground_tops.l0, inter]
    rw [if_pos (by omega), if_pos (by omega), if_pos (by omega), if_pos (by omega), e, bind_some_, if_pos (by omega), w64s c (by omega)]
    unfold interV at hz
    rw [hz]
    simp [interV]
theorem implAt_is (k : Nat) (ds : List Int) (hs : List S59) (a : Int) (h : grOk ds hs = true) (hk : 3000000 < k) : impl_Ground_tops.f k ds hs a = some (topsAt hs a) := by
  obtain ⟨h1, h2, h3, h4⟩ := grOk_in h
  have hl : ∀ i : Nat, i < hs.length → (rd_T59 hs (i : Int)).f1.length = ds.length := fun i hi => by
    have := (holeOk_in (h4 i hi)).2.1
    omega
  have hr : ∀ i : Nat, i < hs.length → 0 ≤ (rd_T59 hs (i : Int)).f0 ∧ (rd_T59 hs (i : Int)).f0 ≤ 60 := fun i hi => (holeOk_in (h4 i hi)).1
  have e1 : wrap64 ((hs.length : Int) - 1) = ((hs.length - 1 : Nat) : Int) := by rw [w64 _ (by omega) (by omega)]; omega
  unfold impl_Ground_tops.f impl_Ground_tops_1.f topsAt
  rw [bind_some_]
  rcases holeIx_is a hs with ⟨e, hall⟩ | ⟨j, hj, e, hge, hless⟩
  · rw [e, if_pos (by omega), if_pos (show (-1 : Int) < 0 by omega), e1, if_pos (by omega), if_pos (by omega), clone_is _ (by rw [hl _ (by omega)]; omega), bind_some_]
  · have hcl := clone_is (rd_T59 hs (j : Int)).f1 (by rw [hl _ hj]; omega)
    rw [e, if_neg (by omega), if_neg (show ¬ (j : Int) < 0 by omega)]
    by_cases c : (j : Int) = 0
    · rw [if_pos c, if_pos (show (0 : Int) ≤ (j : Int) by omega), if_pos (show (j : Int) < (hs.length : Int) by omega), hcl, bind_some_, if_pos (Or.inl c)]
    · rw [if_neg c, if_pos (show (0 : Int) ≤ (j : Int) by omega), if_pos (show (j : Int) < (hs.length : Int) by omega), hcl, bind_some_]
      by_cases c2 : (rd_T59 hs (j : Int)).f0 = a
      · rw [if_pos c2, if_pos (Or.inr c2)]
      · have e2 : wrap64 ((j : Int) - 1) = ((j - 1 : Nat) : Int) := by rw [w64 _ (by omega) (by omega)]; omega
        have q1 := hless (j - 1) (by omega)
        have q2 := hr (j - 1) (by omega)
        have q3 := hr j hj
        have hne : wrap64 ((rd_T59 hs (j : Int)).f0 - (rd_T59 hs ((j - 1 : Nat) : Int)).f0) ≠ 0 := by
          rw [w64 _ (by omega) (by omega)]
          omega
        rw [if_neg c2, if_neg (show ¬ ((j : Int) = 0 ∨ (rd_T59 hs (j : Int)).f0 = a) by simp only [not_or]; exact ⟨c, c2⟩), Int.toNat_natCast, e2, if_pos (by omega), if_pos (by omega)]
        have := implInter_l0 (rd_T59 hs ((j - 1 : Nat) : Int)).f0 (rd_T59 hs (j : Int)).f0 a (rd_T59 hs ((j - 1 : Nat) : Int)).f1 (rd_T59 hs (j : Int)).f1 (by rw [hl _ hj, hl _ (by omega)]) (by rw [hl _ (by omega)]; omega) hne [] (rd_T59 hs ((j - 1 : Nat) : Int)).f1.length k 0 [] (by omega) (by rw [hl _ (by omega)]; omega) rfl
        simpa using this


def spec_l06Class.l0 : Nat → List Int → Int → Int → Int → Option (Int)
 | 0, _, _, _, _ => none
 | k + 1, x0, x1, x5, x6 => if x6 < (x0.length : Int) then (if 0 ≤ x6 then (if (rd x0 x6) > x1 then (spec_l06Class.l0 k x0 x1 x6 (wrap64 (x6 + 1))) else (spec_l06Class.l0 k x0 x1 x5 (wrap64 (x6 + 1)))) else (none)) else (some x5)
def spec_l06Class.f (k : Nat) (l0 : List Int) (a1 : Int) : Option (Int) := spec_l06Class.l0 k l0 a1 (-1) 0
def spec_l01Floor.f (a0 : Int) (a1 : Int) : Option (Int) := if a1 = 0 then (none) else (if (Int.tmod a0 a1) < 0 then (some (wrap64 ((wrap64 (Int.tdiv a0 a1)) - 1))) else (some (wrap64 (Int.tdiv a0 a1))))

mutual
def spec_l06At.j1 : Nat → Int → Int → List Int → List (S59) → Option (List Int)
 | 0, _, _, _, _ => none
 | k + 1, x1, x5, x1000, x1001 => spec_l06At.l1 k x1 x5 (wrap64 ((x1001.length : Int) - 1)) x1000 x1001
def spec_l06At.j3 : Nat → Int → Int → Int → List Int → List (S59) → Option (List Int)
 | 0, _, _, _, _, _ => none
 | k + 1, x1, x5, x6, x1000, x1001 => if 0 ≤ x5 then (if x5 < (x1001.length : Int) then (if 0 ≤ x6 then (if x6 < (x1001.length : Int) then (if ((rd_T59 x1001 x5).f0) > x1 then (spec_l06At.j4 k x1 x5 x6 true x1000 x1001) else (spec_l06At.j4 k x1 x5 x6 (decide (((rd_T59 x1001 x5).f0) ≥ ((rd_T59 x1001 x6).f0))) x1000 x1001)) else (none)) else (none)) else (none)) else (none)
def spec_l06At.j4 : Nat → Int → Int → Int → Bool → List Int → List (S59) → Option (List Int)
 | 0, _, _, _, _, _, _ => none
 | k + 1, x1, x5, x6, x85, x1000, x1001 => if x85 = true then (if 0 ≤ x5 then (if x5 < (x1001.length : Int) then ((spec_l00Own.f ((rd_T59 x1001 x5).f1)).bind fun t138 => (some t138)) else (none)) else (none)) else (spec_l06At.l2 k x1 x5 x6 (([] : List Int)) 0 x1000 x1001)
def spec_l06At.l2 : Nat → Int → Int → Int → List Int → Int → List Int → List (S59) → Option (List Int)
 | 0, _, _, _, _, _, _, _ => none
 | k + 1, x1, x5, x6, x9, x10, x1000, x1001 => if 0 ≤ x5 then (if x5 < (x1001.length : Int) then (if x10 < (((rd_T59 x1001 x5).f1).length : Int) then (if 0 ≤ x10 then (if 0 ≤ x6 then (if x6 < (x1001.length : Int) then (if x10 < (((rd_T59 x1001 x6).f1).length : Int) then ((spec_l01Floor.f (wrap64 ((wrap64 ((rd ((rd_T59 x1001 x6).f1) x10) - (rd ((rd_T59 x1001 x5).f1) x10))) * (wrap64 (x1 - ((rd_T59 x1001 x5).f0))))) (wrap64 (((rd_T59 x1001 x6).f0) - ((rd_T59 x1001 x5).f0)))).bind fun t150 => (if x9.length < 17592186044416 then (spec_l06At.l2 k x1 x5 x6 (x9 ++ [wrap64 ((rd ((rd_T59 x1001 x5).f1) x10) + t150)]) (wrap64 (x10 + 1)) x1000 x1001) else (none))) else (none)) else (none)) else (none)) else (none)) else (some x9)) else (none)) else (none)
def spec_l06At.l1 : Nat → Int → Int → Int → List Int → List (S59) → Option (List Int)
 | 0, _, _, _, _, _ => none
 | k + 1, x1, x5, x6, x1000, x1001 => if x6 > 0 then (if 0 ≤ (wrap64 (x6 - 1)) then (if (wrap64 (x6 - 1)) < (x1001.length : Int) then (if ((rd_T59 x1001 (wrap64 (x6 - 1))).f0) ≥ x1 then (spec_l06At.l1 k x1 x5 (wrap64 (x6 - 1)) x1000 x1001) else (spec_l06At.j3 k x1 x5 x6 x1000 x1001)) else (none)) else (none)) else (spec_l06At.j3 k x1 x5 x6 x1000 x1001)
def spec_l06At.l0 : Nat → Int → Int → List Int → List (S59) → Option (List Int)
 | 0, _, _, _, _ => none
 | k + 1, x1, x5, x1000, x1001 => if (wrap64 (x5 + 1)) < (x1001.length : Int) then (if 0 ≤ (wrap64 (x5 + 1)) then (if ((rd_T59 x1001 (wrap64 (x5 + 1))).f0) ≤ x1 then (spec_l06At.l0 k x1 (wrap64 (x5 + 1)) x1000 x1001) else (spec_l06At.j1 k x1 x5 x1000 x1001)) else (none)) else (spec_l06At.j1 k x1 x5 x1000 x1001)
end
def spec_l06At.f (k : Nat) (l0_0 : List Int) (l0_1 : List (S59)) (a1 : Int) : Option (List Int) := spec_l06At.l0 k a1 0 l0_0 l0_1
/- The tops of the classes at a ring, as the reference reckons them. -/

def spec_l06Face.l0 : Nat → Int → List Int → List Int → List Int → Int → Option (List Int)
 | 0, _, _, _, _, _ => none
 | k + 1, x2, x7, x8, x9, x10 => if x10 < 10 then ((spec_l06Class.f k x8 (wrap64 (x2 + (wrap64 (300 * (wrap64 ((wrap64 (2 * x10)) - 9))))))).bind fun t163 => (if t163 < 0 then (if 0 ≤ (x8.length : Int) then (if (x8.length : Int) < (x9.length : Int) then (if 0 ≤ x10 then (if x10 < (x7.length : Int) then (spec_l06Face.l0 k x2 x7 x8 (x9.set ((x8.length : Int) : Int).toNat (wrap64 ((rd x9 (x8.length : Int)) + (rd x7 x10)))) (wrap64 (x10 + 1))) else (none)) else (none)) else (none)) else (none)) else (if 0 ≤ t163 then (if t163 < (x9.length : Int) then (if 0 ≤ x10 then (if x10 < (x7.length : Int) then (spec_l06Face.l0 k x2 x7 x8 (x9.set (t163 : Int).toNat (wrap64 ((rd x9 t163) + (rd x7 x10)))) (wrap64 (x10 + 1))) else (none)) else (none)) else (none)) else (none)))) else (some x9)
def spec_l06Face.f (k : Nat) (l0_0 : List Int) (l0_1 : List (S59)) (a1 : Int) (a2 : Int) : Option (List Int) := (spec_l06At.f k l0_0 l0_1 a1).bind fun t157 => (if 0 ≤ (wrap64 ((t157.length : Int) + 1)) then (if (wrap64 ((t157.length : Int) + 1) : Int).toNat ≤ 35184372088832 then (spec_l06Face.l0 k a2 (([52, 90, 111, 122, 125, 125, 122, 111, 90, 52] : List Int)) t157 (List.replicate (wrap64 ((t157.length : Int) + 1) : Int).toNat 0) 0) else (none)) else (none))
/- The classes and the faces of a ground, as both sides reckon them. -/
def classGo (t : List Int) (h : Int) : Nat → Nat → Int → Int
  | 0, _, c => c
  | d + 1, i, c => classGo t h d (i + 1) (if rd t (i : Int) > h then (i : Int) else c)
def classOf (t : List Int) (h : Int) : Int := classGo t h t.length 0 (-1)
theorem classGo_in (t : List Int) (h : Int) : ∀ (d i : Nat) (c : Int), -1 ≤ c → c < ((i + d : Nat) : Int) → -1 ≤ classGo t h d i c ∧ classGo t h d i c < ((i + d : Nat) : Int)
  | 0, i, c, h1, h2 => ⟨h1, h2⟩
  | d + 1, i, c, h1, h2 => by
    simp only [classGo]
    have := classGo_in t h d (i + 1) (if rd t (i : Int) > h then (i : Int) else c) (by split <;> omega) (by split <;> omega)
    omega
theorem classOf_in (t : List Int) (h : Int) : -1 ≤ classOf t h ∧ (classOf t h < (t.length : Int) ∨ classOf t h = -1) := by
  rcases Nat.eq_zero_or_pos t.length with e | e
  · unfold classOf
    rw [e]
    exact ⟨Int.le_refl _, Or.inr rfl⟩
  · have := classGo_in t h t.length 0 (-1) (Int.le_refl _) (by omega)
    unfold classOf
    exact ⟨this.1, Or.inl (by omega)⟩
theorem implClass_l0 (t : List Int) (h : Int) (hb : t.length ≤ 1048576) : ∀ (d k i : Nat) (c : Int), i + d = t.length → d < k → impl_Ground_class.l0 k h c t t.length i = some (classGo t h d i c) := by
  intro d
  induction d with
  | zero =>
    intro k i c hi hk
    obtain ⟨k, rfl⟩ : ∃ m, k = m + 1 := ⟨k - 1, by omega⟩
    simp only [impl_Ground_class.l0, classGo]
    rw [if_neg (by omega)]
  | succ d ih =>
    intro k i c hi hk
    obtain ⟨k, rfl⟩ : ∃ m, k = m + 1 := ⟨k - 1, by omega⟩
    simp only [impl_Ground_class.l0, classGo]
    rw [if_pos (by omega), if_pos (by omega), if_pos (by omega), w64s i (by omega)]
    by_cases q : rd t (i : Int) > h
    · rw [if_pos q, if_pos q]
      exact ih k (i + 1) _ (by omega) (by omega)
    · rw [if_neg q, if_neg q]
      exact ih k (i + 1) _ (by omega) (by omega)
theorem implClass_is (k : Nat) (ds : List Int) (hs : List S59) (a h : Int) (hg : grOk ds hs = true) (hk : 3000000 < k) : impl_Ground_class.f k ds hs a h = some (classOf (topsAt hs a) h) := by
  have hl := topsAt_len hg a
  have hin := (grOk_in hg).1
  unfold impl_Ground_class.f classOf
  rw [implAt_is k ds hs a hg hk, bind_some_]
  exact implClass_l0 _ h (by omega) _ k 0 (-1) (by omega) (by omega)
def areas : List Int := [52, 90, 111, 122, 125, 125, 122, 111, 90, 52]
def stripH (h : Int) (i : Nat) : Int := wrap64 (h + wrap64 (300 * wrap64 (wrap64 (2 * (i : Int)) - 9)))
def stripC (t : List Int) (h : Int) (i : Nat) : Nat := if classOf t (stripH h i) < 0 then t.length else (classOf t (stripH h i)).toNat
def faceGo (t : List Int) (h : Int) : Nat → Nat → List Int → List Int
  | 0, _, o => o
  | d + 1, i, o => faceGo t h d (i + 1) (o.set (stripC t h i) (wrap64 (rd o (stripC t h i : Int) + rd areas (i : Int))))
def faceOf (t : List Int) (h : Int) : List Int := faceGo t h 10 0 (List.replicate (t.length + 1) 0)
theorem stripC_in (t : List Int) (h : Int) (i : Nat) : stripC t h i < t.length + 1 := by
  have := classOf_in t (stripH h i)
  unfold stripC
  split <;> omega
theorem faceGo_len (t : List Int) (h : Int) : ∀ (d i : Nat) (o : List Int), (faceGo t h d i o).length = o.length
  | 0, _, _ => rfl
  | d + 1, i, o => by
    simp only [faceGo]
    rw [faceGo_len t h d (i + 1), List.length_set]
theorem faceOf_len (t : List Int) (h : Int) : (faceOf t h).length = t.length + 1 := by
  unfold faceOf
  rw [faceGo_len, List.length_replicate]
theorem rd_setF (l : List Int) (i j : Nat) (v : Int) (hi : i < l.length) : rd (l.set i v) (j : Int) = if i = j then v else rd l (j : Int) := by
  unfold rd
  rw [Int.toNat_natCast, List.getD_eq_getElem?_getD, List.getD_eq_getElem?_getD, List.getElem?_set]
  by_cases e : i = j
  · rw [if_pos e, if_pos e, if_pos hi]
    rfl
  · rw [if_neg e, if_neg e]
theorem areas_in (i : Nat) (hi : i < 10) : 0 ≤ rd areas (i : Int) ∧ rd areas (i : Int) ≤ 125 := by
  have : i = 0 ∨ i = 1 ∨ i = 2 ∨ i = 3 ∨ i = 4 ∨ i = 5 ∨ i = 6 ∨ i = 7 ∨ i = 8 ∨ i = 9 := by omega
  rcases this with e | e | e | e | e | e | e | e | e | e <;> subst e <;> decide
theorem faceGo_in (t : List Int) (h : Int) : ∀ (d i : Nat) (o : List Int), i + d = 10 → o.length = t.length + 1 → (∀ j : Nat, j < o.length → 0 ≤ rd o (j : Int) ∧ rd o (j : Int) ≤ 125 * (i : Int)) → ∀ j : Nat, j < o.length → 0 ≤ rd (faceGo t h d i o) (j : Int) ∧ rd (faceGo t h d i o) (j : Int) ≤ 1250
  | 0, i, o, hi, hl, hj => by
    intro j h1
    have := hj j h1
    simp only [faceGo]
    omega
  | d + 1, i, o, hi, hl, hj => by
    intro j h1
    have hc := stripC_in t h i
    have ha := areas_in i (by omega)
    have ho := hj (stripC t h i) (by omega)
    simp only [faceGo]
    refine faceGo_in t h d (i + 1) _ (by omega) (by rw [List.length_set]; exact hl) ?_ j (by rw [List.length_set]; exact h1)
    intro m hm
    rw [List.length_set] at hm
    have hm2 := hj m hm
    rw [rd_setF _ _ _ _ (by omega)]
    split
    · rw [w64 _ (by omega) (by omega)]
      omega
    · omega
theorem faceOf_in (t : List Int) (h : Int) (j : Nat) (hj : j < t.length + 1) : 0 ≤ rd (faceOf t h) (j : Int) ∧ rd (faceOf t h) (j : Int) ≤ 1250 := by
  unfold faceOf
  refine faceGo_in t h 10 0 _ (by omega) (by rw [List.length_replicate]) ?_ j (by rw [List.length_replicate]; exact hj)
  intro m hm
  rw [List.length_replicate] at hm
  rw [rd_at _ m (by rw [List.length_replicate]; exact hm), List.getElem_replicate]
  omega
theorem implFace_l0 (ds : List Int) (hs : List S59) (a h : Int) (hg : grOk ds hs = true) : ∀ (d k i : Nat) (o : List Int), i + d = 10 → d + 3000000 < k → o.length = ds.length + 1 → impl_Ground_face.l0 k a h o areas areas.length i ds hs = some (faceGo (topsAt hs a) h d i o) := by
  intro d
  have hl := topsAt_len hg a
  have hin := (grOk_in hg).1
  have h10 : (areas.length : Int) = 10 := rfl
  induction d with
  | zero =>
    intro k i o hi hk ho
    obtain ⟨k, rfl⟩ : ∃ m, k = m + 1 := ⟨k - 1, by omega⟩
    simp only [impl_Ground_face.l0, faceGo]
    rw [if_neg (by omega)]
  | succ d ih =>
    intro k i o hi hk ho
    obtain ⟨k, rfl⟩ : ∃ m, k = m + 1 := ⟨k - 1, by omega⟩
    have hc := classOf_in (topsAt hs a) (stripH h i)
    have hz := ih k (i + 1) (o.set (stripC (topsAt hs a) h i) (wrap64 (rd o (stripC (topsAt hs a) h i : Int) + rd areas (i : Int)))) (by omega) (by omega) (by rw [List.length_set]; exact ho)
    have ec := implClass_is k ds hs a (stripH h i) hg (by omega)
    unfold stripH at ec hc
    simp only [impl_Ground_face.l0, faceGo]
    rw [if_pos (by omega), if_pos (by omega), if_pos (by omega), ec, bind_some_, w64s i (by omega)]
    by_cases q : classOf (topsAt hs a) (wrap64 (h + wrap64 (300 * wrap64 (wrap64 (2 * (i : Int)) - 9)))) < 0
    · have es : stripC (topsAt hs a) h i = ds.length := by unfold stripC stripH; rw [if_pos q, hl]
      rw [if_pos q, if_pos (by omega), if_pos (by omega), Int.toNat_natCast, ← hz, es]
    · have es : ((stripC (topsAt hs a) h i : Nat) : Int) = classOf (topsAt hs a) (wrap64 (h + wrap64 (300 * wrap64 (wrap64 (2 * (i : Int)) - 9)))) := by unfold stripC stripH; rw [if_neg q]; omega
      rw [if_neg q, if_pos (by omega), if_pos (by omega), ← hz, ← es, Int.toNat_natCast]
theorem implFace_is (k : Nat) (ds : List Int) (hs : List S59) (a h : Int) (hg : grOk ds hs = true) (hk : 4000000 < k) : impl_Ground_face.f k ds hs a h = some (faceOf (topsAt hs a) h) := by
  have hl := topsAt_len hg a
  have hin := (grOk_in hg).1
  have e : wrap64 ((ds.length : Int) + 1) = ((ds.length + 1 : Nat) : Int) := w64s _ (by omega)
  unfold impl_Ground_face.f faceOf
  rw [e, if_pos (by omega), Int.toNat_natCast, if_pos (by omega), bind_some_, hl]
  exact implFace_l0 ds hs a h hg 10 k 0 _ (by omega) (by omega) (by rw [List.length_replicate])

mutual
def spec_l06Is.j0 : Nat → Bool → List Int → List (S59) → Option (Bool)
 | 0, _, _, _ => none
 | k + 1, x21, x1000, x1001 => if x21 = true then (some false) else (spec_l06Is.l0 k 0 x1000 x1001)
def spec_l06Is.l0 : Nat → Int → List Int → List (S59) → Option (Bool)
 | 0, _, _, _ => none
 | k + 1, x3, x1000, x1001 => if x3 < (x1000.length : Int) then (if 0 ≤ x3 then ((spec_l00In.f (rd x1000 x3) 1 3000).bind fun t115 => (if t115 = true then (spec_l06Is.l0 k (wrap64 (x3 + 1)) x1000 x1001) else (some false))) else (none)) else (spec_l06Is.l1 k 0 x1000 x1001)
def spec_l06Is.l1 : Nat → Int → List Int → List (S59) → Option (Bool)
 | 0, _, _, _ => none
 | k + 1, x4, x1000, x1001 => if x4 < (x1001.length : Int) then (if 0 ≤ x4 then ((spec_l00In.f ((rd_T59 x1001 x4).f0) 0 60).bind fun t118 => (if t118 = true then (if x4 > 0 then (if 0 ≤ (wrap64 (x4 - 1)) then (if (wrap64 (x4 - 1)) < (x1001.length : Int) then (if ((rd_T59 x1001 (wrap64 (x4 - 1))).f0) ≥ ((rd_T59 x1001 x4).f0) then (some false) else ((spec_l06Tops.f k ((rd_T59 x1001 x4).f1) (x1000.length : Int)).bind fun t120 => (if t120 = true then (spec_l06Is.l1 k (wrap64 (x4 + 1)) x1000 x1001) else (some false)))) else (none)) else (none)) else ((spec_l06Tops.f k ((rd_T59 x1001 x4).f1) (x1000.length : Int)).bind fun t121 => (if t121 = true then (spec_l06Is.l1 k (wrap64 (x4 + 1)) x1000 x1001) else (some false)))) else (some false))) else (none)) else (some true)
end
/- What the reference asks of a ground. -/


def spec_l01Round.j0 : Nat → Int → Int → Int → Bool → Option (Int)
 | 0, _, _, _, _ => none
 | k + 1, x1, x5, x6, x21 => if x21 = true then (some (wrap64 (x5 + 1))) else (if x6 < 0 then (if (wrap64 (-x6)) ≥ (wrap64 (x1 + x6)) then (some (wrap64 (x5 - 1))) else (some x5)) else (some x5))
def spec_l01Round.f (k : Nat) (a0 : Int) (a1 : Int) : Option (Int) := if a1 = 0 then (none) else (if (Int.tmod a0 a1) ≥ 0 then (spec_l01Round.j0 k a1 (wrap64 (Int.tdiv a0 a1)) (Int.tmod a0 a1) (decide ((Int.tmod a0 a1) ≥ (wrap64 (a1 - (Int.tmod a0 a1)))))) else (spec_l01Round.j0 k a1 (wrap64 (Int.tdiv a0 a1)) (Int.tmod a0 a1) false))
def spec_l06Weight.l0 : Nat → List Int → Int → Int → List Int → List (S59) → Option (Int)
 | 0, _, _, _, _, _ => none
 | k + 1, x7, x8, x9, x1000, x1001 => if x9 < (x1000.length : Int) then (if 0 ≤ x9 then (if x9 < (x7.length : Int) then (spec_l06Weight.l0 k x7 (wrap64 (x8 + (wrap64 ((rd x7 x9) * (rd x1000 x9))))) (wrap64 (x9 + 1)) x1000 x1001) else (none)) else (none)) else ((spec_l01Round.f k x8 20).bind fun t293 => (some t293))
def spec_l06Weight.f (k : Nat) (l0_0 : List Int) (l0_1 : List (S59)) (a1 : Int) (a2 : Int) : Option (Int) := (spec_l06Face.f k l0_0 l0_1 a1 a2).bind fun t288 => (spec_l06Weight.l0 k t288 0 0 l0_0 l0_1)



/- The face and the weight of a ring, as both sides answer. -/
theorem ite_some_ {α : Type} (b : Bool) (x y : α) : (if b = true then some x else some y) = some (if b = true then x else y) := by cases b <;> rfl
def placeOk (r h : Int) : Bool := decide (0 ≤ r ∧ r ≤ 60) && decide (-100000 ≤ h ∧ h ≤ 100000)
def faceP (ds : List Int) (hs : List S59) (r h : Int) : List Int × Bool := if (grOk ds hs && placeOk r h) = true then (faceOf (topsAt hs r) h, true) else ([], false)
theorem implPlace_is (r h : Int) : impl_isPlace.f r h = some (placeOk r h) := by
  unfold impl_isPlace.f placeOk
  rw [within_is, bind_some_, within_is, bind_some_]
  by_cases c : 0 ≤ r ∧ r ≤ 60
  · rw [if_pos (decide_eq_true c), decide_eq_true c, Bool.true_and]
  · rw [if_neg (by simpa using c), decide_eq_false c, Bool.false_and]
theorem implFaceOf_is (k : Nat) (ds : List Int) (hs : List S59) (r h : Int) (hp : shortH hs) (hk : 5000000 < k) : impl_FaceOf.f k ds hs r h = some (faceP ds hs r h) := by
  unfold impl_FaceOf.f faceP
  rw [implGround_is k ds hs hp (by omega), bind_some_, implPlace_is, bind_some_]
  by_cases c : grOk ds hs = true
  · rw [if_pos c, c, Bool.true_and, implFace_is k ds hs r h c (by omega), bind_some_]
    exact ite_some_ _ _ _
  · rw [if_neg c, if_neg (by simp [c])]
def weightGo (f ds : List Int) : Nat → Nat → Int → Int
  | 0, _, s => s
  | d + 1, i, s => weightGo f ds d (i + 1) (wrap64 (s + wrap64 (rd f (i : Int) * rd ds (i : Int))))
def round20 (s : Int) : Int := if Int.tmod s 20 ≥ wrap64 (20 - Int.tmod s 20) then wrap64 (wrap64 (Int.tdiv s 20) + 1) else wrap64 (Int.tdiv s 20)
def weightOf (ds : List Int) (hs : List S59) (r h : Int) : Int := round20 (weightGo (faceOf (topsAt hs r) h) ds ds.length 0 0)
def weightP (ds : List Int) (hs : List S59) (r h : Int) : Int × Bool := if (grOk ds hs && placeOk r h) = true then (weightOf ds hs r h, true) else (0, false)
theorem weightGo_in (f ds : List Int) (hf : ∀ j : Nat, j < ds.length → 0 ≤ rd f (j : Int) ∧ rd f (j : Int) ≤ 1250) (hd : ∀ j : Nat, j < ds.length → 1 ≤ rd ds (j : Int) ∧ rd ds (j : Int) ≤ 3000) (h4 : ds.length ≤ 4) : ∀ (d i : Nat) (s : Int), i + d = ds.length → 0 ≤ s → s ≤ 3750000 * (i : Int) → 0 ≤ weightGo f ds d i s
  | 0, i, s, _, h0, _ => h0
  | d + 1, i, s, hi, h0, h1 => by
    have a1 := hf i (by omega)
    have a2 := hd i (by omega)
    have b1 : 0 ≤ rd f (i : Int) * rd ds (i : Int) := Int.mul_nonneg a1.1 (by omega)
    have b2 : rd f (i : Int) * rd ds (i : Int) ≤ 1250 * rd ds (i : Int) := Int.mul_le_mul_of_nonneg_right a1.2 (by omega)
    have e1 := w64 (rd f (i : Int) * rd ds (i : Int)) (by omega) (by omega)
    have e2 := w64 (s + rd f (i : Int) * rd ds (i : Int)) (by omega) (by omega)
    simp only [weightGo]
    rw [e1, e2]
    clear e1 e2
    exact weightGo_in f ds hf hd h4 d (i + 1) _ (by omega) (by omega) (by omega)
theorem implRound_is (k : Nat) (s : Int) (hs : 0 ≤ s) (hk : 0 < k) : impl_roundOf.f k s 20 = some (round20 s) := by
  obtain ⟨k, rfl⟩ : ∃ m, k = m + 1 := ⟨k - 1, by omega⟩
  unfold round20
  simp only [impl_roundOf.f]
  rw [if_neg (by omega), if_neg (by decide)]
  split <;> rfl
theorem weight_nonneg (ds : List Int) (hs : List S59) (r h : Int) (hg : grOk ds hs = true) : 0 ≤ weightGo (faceOf (topsAt hs r) h) ds ds.length 0 0 := by
  obtain ⟨h1, h2, h3, h4⟩ := grOk_in hg
  have hl := topsAt_len hg r
  exact weightGo_in _ ds (fun j hj => faceOf_in _ h j (by omega)) h3 h1.2 ds.length 0 0 (by omega) (by omega) (by omega)
theorem implWeight_l0 (f ds : List Int) (hb : ds.length ≤ 1048576) (hf : ds.length ≤ f.length) (hnn : 0 ≤ weightGo f ds ds.length 0 0) : ∀ (d k i : Nat) (s : Int), i + d = ds.length → d + 10 < k → weightGo f ds d i s = weightGo f ds ds.length 0 0 → impl_Ground_weight.l0 k s f ds ds.length i = some (round20 (weightGo f ds ds.length 0 0)) := by
  intro d
  induction d with
  | zero =>
    intro k i s hi hk he
    obtain ⟨k, rfl⟩ : ∃ m, k = m + 1 := ⟨k - 1, by omega⟩
    simp only [impl_Ground_weight.l0]
    simp only [weightGo] at he
    rw [if_neg (by omega), he, implRound_is k _ hnn (by omega), bind_some_]
  | succ d ih =>
    intro k i s hi hk he
    obtain ⟨k, rfl⟩ : ∃ m, k = m + 1 := ⟨k - 1, by omega⟩
    simp only [impl_Ground_weight.l0]
    simp only [weightGo] at he
    rw [if_pos (by omega), if_pos (by omega), if_pos (by omega), if_pos (by omega), w64s i (by omega)]
    exact ih k (i + 1) _ (by omega) (by omega) he
theorem implWeight_is (k : Nat) (ds : List Int) (hs : List S59) (r h : Int) (hg : grOk ds hs = true) (hk : 5000000 < k) : impl_Ground_weight.f k ds hs r h = some (weightOf ds hs r h) := by
  have hin := (grOk_in hg).1
  have hl := topsAt_len hg r
  unfold impl_Ground_weight.f weightOf
  rw [implFace_is k ds hs r h hg (by omega), bind_some_]
  exact implWeight_l0 _ ds (by omega) (by rw [faceOf_len]; omega) (weight_nonneg ds hs r h hg) ds.length k 0 0 (by omega) (by omega) rfl
theorem implWeightOf_is (k : Nat) (ds : List Int) (hs : List S59) (r h : Int) (hp : shortH hs) (hk : 6000000 < k) : impl_WeightOf.f k ds hs r h = some (weightP ds hs r h) := by
  unfold impl_WeightOf.f weightP
  rw [implGround_is k ds hs hp (by omega), bind_some_, implPlace_is, bind_some_]
  by_cases c : grOk ds hs = true
  · rw [if_pos c, c, Bool.true_and, implWeight_is k ds hs r h c (by omega), bind_some_]
    exact ite_some_ _ _ _
  · rw [if_neg c, if_neg (by simp [c])]

mutual
def spec_l02Turns.l0 : Nat → List (S124) → Int → Int → Int → Int → Int → List (S124) → Option ((List (S124)))
 | 0, _, _, _, _, _, _, _ => none
 | k + 1, x3, x4, x1000, x1001, x1002, x1003, x1004 => if x4 < (x1004.length : Int) then (spec_l02Turns.l1 k x3 x4 0 x1000 x1001 x1002 x1003 x1004) else (some x3)
def spec_l02Turns.l1 : Nat → List (S124) → Int → Int → Int → Int → Int → Int → List (S124) → Option ((List (S124)))
 | 0, _, _, _, _, _, _, _, _ => none
 | k + 1, x3, x4, x5, x1000, x1001, x1002, x1003, x1004 => if 0 ≤ x4 then (if x4 < (x1004.length : Int) then (if x5 < ((rd_T124 x1004 x4).f0) then (if x3.length < 5864062014805 then (spec_l02Turns.l1 k (x3 ++ [(⟨1, (rd_T124 x1004 x4).f1, (rd_T124 x1004 x4).f2⟩ : S124)]) x4 (wrap64 (x5 + 1)) x1000 x1001 x1002 x1003 x1004) else (none)) else (spec_l02Turns.l0 k x3 (wrap64 (x4 + 1)) x1000 x1001 x1002 x1003 x1004)) else (none)) else (none)
end
def spec_l02Turns.f (k : Nat) (a0_0 : Int) (a0_1 : Int) (a0_2 : Int) (a0_3 : Int) (l0_4 : List (S124)) : Option ((List (S124))) := spec_l02Turns.l0 k (([] : List (S124))) 0 a0_0 a0_1 a0_2 a0_3 l0_4

def spec_l02Poses.l0 : Nat → List (S44) → List (S124) → Int → Option ((List (S44)))
 | 0, _, _, _ => none
 | k + 1, x3, x4, x5 => if x5 < (x4.length : Int) then (if 0 ≤ x5 then (if x5 < (x3.length : Int) then ((spec_l02Next.f ((rd_T44 x3 x5).f0) ((rd_T44 x3 x5).f1) ((rd_T44 x3 x5).f2) ((rd_T44 x3 x5).f3) ((rd_T124 x4 x5).f1) ((rd_T124 x4 x5).f2)).bind fun bt817 => (if x3.length < 4398046511104 then (spec_l02Poses.l0 k (x3 ++ [(⟨bt817.1, bt817.2.1, bt817.2.2.1, bt817.2.2.2⟩ : S44)]) x4 (wrap64 (x5 + 1))) else (none))) else (none)) else (none)) else (some x3)
def spec_l02Poses.f (k : Nat) (a0_0 : Int) (a0_1 : Int) (a0_2 : Int) (a0_3 : Int) (l0_4 : List (S124)) : Option ((List (S44))) := (spec_l02Turns.f k a0_0 a0_1 a0_2 a0_3 l0_4).bind fun t811 => (spec_l02Poses.l0 k (([(⟨a0_0, a0_1, a0_2, a0_3⟩ : S44)] : List (S44))) t811 0)
/- The poses of an axis, as the reference reckons them. -/
theorem specAx_l1 (a b u v : Int) (cs : List S124) (n : Int) (c : S124) (h1 : 1 ≤ c.f0) (i : Int) : ∀ (d k j : Nat) (p : S44), j + d = c.f0.toNat → c.f0 ≤ 60 → d < k → spec_l02Is.l1 k n i j a b u v cs p.f0 p.f1 p.f2 p.f3 c.f0 c.f1 c.f2 = if (walkT p (repsT d c)).all poseOk = true then spec_l02Is.l0 (k - (d + 1)) n (wrap64 (i + 1)) a b u v cs (endT p (repsT d c)).f0 (endT p (repsT d c)).f1 (endT p (repsT d c)).f2 (endT p (repsT d c)).f3 else some false := by
  intro d
  induction d with
  | zero =>
    intro k j p hj h60 hk
    obtain ⟨k, rfl⟩ : ∃ m, k = m + 1 := ⟨k - 1, by omega⟩
    simp only [spec_l02Is.l1]
    rw [if_neg (by omega)]
    simp [repsT, walkT, endT]
  | succ d ih =>
    intro k j p hj h60 hk
    obtain ⟨k, rfl⟩ : ∃ m, k = m + 1 := ⟨k - 1, by omega⟩
    simp only [spec_l02Is.l1, spec_l02Next.f, bind_some_, specPose_is]
    rw [if_pos (by omega), repsT_succ]
    have hq : nextP p ⟨1, c.f1, c.f2⟩ = ⟨wrap64 (p.f0 + p.f2), wrap64 (p.f1 + p.f3), wrap64 (p.f2 + c.f1), wrap64 (p.f3 + c.f2)⟩ := rfl
    simp only [walkT, endT, List.all_cons, Bool.and_eq_true]
    have hz := ih k (j + 1) (nextP p ⟨1, c.f1, c.f2⟩) (by omega) h60 (by omega)
    rw [← hq]
    by_cases q : poseOk (nextP p ⟨1, c.f1, c.f2⟩) = true
    · rw [if_pos q, w64s j (by omega)]
      have e : spec_l02Is.l1 k n i ((j + 1 : Nat) : Int) a b u v cs (wrap64 (p.f0 + p.f2)) (wrap64 (p.f1 + p.f3)) (wrap64 (p.f2 + c.f1)) (wrap64 (p.f3 + c.f2)) c.f0 c.f1 c.f2 = spec_l02Is.l1 k n i ((j + 1 : Nat) : Int) a b u v cs (nextP p ⟨1, c.f1, c.f2⟩).f0 (nextP p ⟨1, c.f1, c.f2⟩).f1 (nextP p ⟨1, c.f1, c.f2⟩).f2 (nextP p ⟨1, c.f1, c.f2⟩).f3 c.f0 c.f1 c.f2 := rfl
      rw [e, hz]
      simp only [q, true_and, Nat.add_sub_add_right]
    · rw [if_neg q, if_neg (by simp [q])]
theorem specAx_l0 (a b u v : Int) (cs : List S124) (h8 : cs.length ≤ 8) : ∀ (d k i : Nat) (n : Int) (p : S44), i + d = cs.length → 100 * d + 2 < k → 0 ≤ n → n ≤ 60 → spec_l02Is.l0 k n i a b u v cs p.f0 p.f1 p.f2 p.f3 = some (curvesOk (cs.drop i) n p) := by
  intro d
  induction d with
  | zero =>
    intro k i n p hi hk hn hn2
    obtain ⟨k, rfl⟩ : ∃ m, k = m + 1 := ⟨k - 1, by omega⟩
    simp only [spec_l02Is.l0]
    rw [if_neg (by omega), List.drop_of_length_le (by omega)]
    simp [curvesOk]
  | succ d ih =>
    intro k i n p hi hk hn hn2
    obtain ⟨k, rfl⟩ : ∃ m, k = m + 2 := ⟨k - 2, by omega⟩
    rw [dropCurve_at cs i (by omega)]
    generalize hc : rd_T124 cs (i : Int) = c
    simp only [spec_l02Is.l0, curvesOk]
    rw [if_pos (by omega), if_pos (by omega), hc, w64 (60 - n) (by omega) (by omega), in_is, bind_some_, specTurn_is, bind_some_]
    by_cases c1 : 1 ≤ c.f0 ∧ c.f0 ≤ 60 - n
    · rw [if_pos (decide_eq_true c1), decide_eq_true c1, Bool.true_and]
      cases c2 : turnOk c.f1 c.f2 with
      | false =>
        simp only [spec_l02Is.j2]
        rw [if_pos (by simp), Bool.false_and]
      | true =>
        simp only [spec_l02Is.j2]
        have hz := specAx_l1 a b u v cs (wrap64 (n + c.f0)) c c1.1 i c.f0.toNat k 0 p (by omega) (by omega) (by omega)
        rw [show ((0 : Nat) : Int) = 0 from rfl] at hz
        rw [if_neg (by simp), hz, Bool.true_and]
        by_cases q : (walkT p (repsT c.f0.toNat c)).all poseOk = true
        · rw [if_pos q, q, Bool.true_and, w64s i (by omega), w64 (n + c.f0) (by omega) (by omega)]
          exact ih (k - (c.f0.toNat + 1)) (i + 1) (n + c.f0) _ (by omega) (by omega) (by omega) (by omega)
        · rw [if_neg q]
          simp only [Bool.not_eq_true] at q
          rw [q, Bool.false_and]
    · simp only [spec_l02Is.j2]
      rw [if_neg (by simpa using c1), if_pos trivial, decide_eq_false c1, Bool.false_and, Bool.false_and]
theorem specAxis_is (k : Nat) (a b u v : Int) (cs : List S124) (hb : cs.length ≤ 1048576) (hk : 5000 < k) : spec_l02Is.f k a b u v cs = some (axOk ⟨a, b, u, v⟩ cs) := by
  obtain ⟨k, rfl⟩ : ∃ m, k = m + 1 := ⟨k - 1, by omega⟩
  unfold spec_l02Is.f axOk
  rw [specPose_is, bind_some_, in_is, bind_some_]
  by_cases c1 : poseOk ⟨a, b, u, v⟩ = true
  · rw [if_pos c1, c1, Bool.true_and]
    by_cases c2 : 1 ≤ (cs.length : Int) ∧ (cs.length : Int) ≤ 8
    · simp only [spec_l02Is.j0]
      rw [decide_eq_true c2, if_neg (by simp), Bool.true_and]
      have hz := specAx_l0 a b u v cs (by omega) cs.length k 0 0 ⟨a, b, u, v⟩ (by omega) (by omega) (by omega) (by omega)
      simpa using hz
    · simp only [spec_l02Is.j0]
      rw [decide_eq_false c2, if_pos (by simp), Bool.false_and]
  · simp only [spec_l02Is.j0]
    simp only [Bool.not_eq_true] at c1
    rw [c1, if_neg (by simp), if_pos trivial, Bool.false_and]

mutual
def spec_ClassesAlong.j0 : Nat → Bool → List Int → List (S59) → Int → Int → Int → Int → List (S124) → Option (List Int × Bool)
 | 0, _, _, _, _, _, _, _, _ => none
 | k + 1, x14, x825000, x825001, x826000, x826001, x826002, x826003, x826004 => if x14 = true then (some (([] : List Int), false)) else ((spec_l02Poses.f k x826000 x826001 x826002 x826003 x826004).bind fun t828 => (spec_ClassesAlong.l0 k t828 (([] : List Int)) 0 x825000 x825001))
def spec_ClassesAlong.l0 : Nat → List (S44) → List Int → Int → List Int → List (S59) → Option (List Int × Bool)
 | 0, _, _, _, _, _ => none
 | k + 1, x6, x7, x8, x825000, x825001 => if x8 < (wrap64 ((x6.length : Int) - 1)) then ((spec_l06At.f k x825000 x825001 x8).bind fun t834 => (if 0 ≤ x8 then (if x8 < (x6.length : Int) then ((spec_l06Class.f k t834 ((rd_T44 x6 x8).f1)).bind fun t838 => (if x7.length < 17592186044416 then (spec_ClassesAlong.l0 k x6 (x7 ++ [t838]) (wrap64 (x8 + 1)) x825000 x825001) else (none))) else (none)) else (none))) else (some (x7, true))
end

mutual
def spec_PrognosisOf.j0 : Nat → Bool → List Int → List (S59) → Int → Int → Int → Int → List (S124) → Option (List Int × Bool)
 | 0, _, _, _, _, _, _, _, _ => none
 | k + 1, x14, x902000, x902001, x903000, x903001, x903002, x903003, x903004 => if x14 = true then (some (([] : List Int), false)) else ((spec_l02Poses.f k x903000 x903001 x903002 x903003 x903004).bind fun t905 => (spec_PrognosisOf.l0 k t905 (([] : List Int)) 0 x902000 x902001))
def spec_PrognosisOf.l0 : Nat → List (S44) → List Int → Int → List Int → List (S59) → Option (List Int × Bool)
 | 0, _, _, _, _, _ => none
 | k + 1, x6, x7, x8, x902000, x902001 => if x8 < (wrap64 ((x6.length : Int) - 1)) then (if 0 ≤ x8 then (if x8 < (x6.length : Int) then ((spec_l06Weight.f k x902000 x902001 x8 ((rd_T44 x6 x8).f1)).bind fun t912 => (if x7.length < 17592186044416 then (spec_PrognosisOf.l0 k x6 (x7 ++ [t912]) (wrap64 (x8 + 1)) x902000 x902001) else (none))) else (none)) else (none)) else (some (x7, true))
end
/- The classes and the weights along an axis, and the mixed rings, as both sides reckon them. -/
def classesOf (hs : List S59) (P : List S44) : List Int := alongGo (fun a h => classOf (topsAt hs a) h) P (P.length - 1) 0
def prognosisOf (ds : List Int) (hs : List S59) (P : List S44) : List Int := alongGo (fun a h => weightOf ds hs a h) P (P.length - 1) 0
theorem implClasses_l0 (ds : List Int) (hs : List S59) (hg : grOk ds hs = true) (P : List S44) (n : Nat) (hn : n ≤ P.length) (hb : n ≤ 1000) : ∀ (d k i : Nat) (acc : List Int), i + d = n → 6000000 + d < k → acc.length = i → impl_ClassesAlong.l0 k acc (P.take n) n i ds hs = some (acc ++ alongGo (fun a h => classOf (topsAt hs a) h) P d i, true) := by
  intro d
  have hl : (P.take n).length = n := by rw [List.length_take]; omega
  induction d with
  | zero =>
    intro k i acc hi hk ha
    obtain ⟨k, rfl⟩ : ∃ m, k = m + 1 := ⟨k - 1, by omega⟩
    simp only [impl_ClassesAlong.l0, alongGo]
    rw [if_neg (by omega), List.append_nil]
  | succ d ih =>
    intro k i acc hi hk ha
    obtain ⟨k, rfl⟩ : ∃ m, k = m + 1 := ⟨k - 1, by omega⟩
    simp only [impl_ClassesAlong.l0, alongGo]
    rw [if_pos (by omega), if_pos (by omega), if_pos (by omega), rdPose_take P n i (by omega) hn, implClass_is k ds hs i _ hg (by omega), bind_some_, if_pos (by omega), w64s i (by omega), ih k (i + 1) _ (by omega) (by omega) (by simp; omega)]
    simp
theorem implPrognosis_l0 (ds : List Int) (hs : List S59) (hg : grOk ds hs = true) (P : List S44) (n : Nat) (hn : n ≤ P.length) (hb : n ≤ 1000) : ∀ (d k i : Nat) (acc : List Int), i + d = n → 6000000 + d < k → acc.length = i → impl_PrognosisOf.l0 k acc (P.take n) n i ds hs = some (acc ++ alongGo (fun a h => weightOf ds hs a h) P d i, true) := by
  intro d
  have hl : (P.take n).length = n := by rw [List.length_take]; omega
  induction d with
  | zero =>
    intro k i acc hi hk ha
    obtain ⟨k, rfl⟩ : ∃ m, k = m + 1 := ⟨k - 1, by omega⟩
    simp only [impl_PrognosisOf.l0, alongGo]
    rw [if_neg (by omega), List.append_nil]
  | succ d ih =>
    intro k i acc hi hk ha
    obtain ⟨k, rfl⟩ : ∃ m, k = m + 1 := ⟨k - 1, by omega⟩
    simp only [impl_PrognosisOf.l0, alongGo]
    rw [if_pos (by omega), if_pos (by omega), if_pos (by omega), rdPose_take P n i (by omega) hn, implWeight_is k ds hs i _ hg (by omega), bind_some_, if_pos (by omega), w64s i (by omega), ih k (i + 1) _ (by omega) (by omega) (by simp; omega)]
    simp
theorem implClasses_is (k : Nat) (ds : List Int) (hs : List S59) (a b u v : Int) (cs : List S124) (hp : shortH hs) (hb : cs.length ≤ 1048576) (hk : 7000000 < k) : impl_ClassesAlong.f k ds hs a b u v cs = some (alongP (classesOf hs) ds hs ⟨a, b, u, v⟩ cs) := by
  unfold impl_ClassesAlong.f alongP
  rw [implAlong_is k ds hs a b u v cs hp hb (by omega), bind_some_]
  by_cases c : (grOk ds hs && axOk ⟨a, b, u, v⟩ cs) = true
  · have c2 := c
    rw [Bool.and_eq_true] at c2
    have hl := posesOf_len c2.2
    rw [if_pos c, if_pos c]
    try dsimp only
    have hlt : ((posesOf ⟨a, b, u, v⟩ cs).take ((posesOf ⟨a, b, u, v⟩ cs).length - 1)).length = (posesOf ⟨a, b, u, v⟩ cs).length - 1 := by rw [List.length_take]; omega
    have hz := implClasses_l0 ds hs c2.1 (posesOf ⟨a, b, u, v⟩ cs) ((posesOf ⟨a, b, u, v⟩ cs).length - 1) (by omega) (by omega) ((posesOf ⟨a, b, u, v⟩ cs).length - 1) k 0 [] (by omega) (by omega) rfl
    rw [show ((0 : Nat) : Int) = 0 from rfl, List.nil_append] at hz
    rw [if_pos rfl, hlt, hz]
    rfl
  · rw [if_neg c, if_neg c]
    try dsimp only
    rw [if_neg (by simp)]
theorem implPrognosis_is (k : Nat) (ds : List Int) (hs : List S59) (a b u v : Int) (cs : List S124) (hp : shortH hs) (hb : cs.length ≤ 1048576) (hk : 7000000 < k) : impl_PrognosisOf.f k ds hs a b u v cs = some (alongP (prognosisOf ds hs) ds hs ⟨a, b, u, v⟩ cs) := by
  unfold impl_PrognosisOf.f alongP
  rw [implAlong_is k ds hs a b u v cs hp hb (by omega), bind_some_]
  by_cases c : (grOk ds hs && axOk ⟨a, b, u, v⟩ cs) = true
  · have c2 := c
    rw [Bool.and_eq_true] at c2
    have hl := posesOf_len c2.2
    rw [if_pos c, if_pos c]
    try dsimp only
    have hlt : ((posesOf ⟨a, b, u, v⟩ cs).take ((posesOf ⟨a, b, u, v⟩ cs).length - 1)).length = (posesOf ⟨a, b, u, v⟩ cs).length - 1 := by rw [List.length_take]; omega
    have hz := implPrognosis_l0 ds hs c2.1 (posesOf ⟨a, b, u, v⟩ cs) ((posesOf ⟨a, b, u, v⟩ cs).length - 1) (by omega) (by omega) ((posesOf ⟨a, b, u, v⟩ cs).length - 1) k 0 [] (by omega) (by omega) rfl
    rw [show ((0 : Nat) : Int) = 0 from rfl, List.nil_append] at hz
    rw [if_pos rfl, hlt, hz]
    rfl
  · rw [if_neg c, if_neg c]
    try dsimp only
    rw [if_neg (by simp)]
/- A number drawn from an input's bytes lies below its bound. -/
theorem u64_in (n : Int) : 0 ≤ IntKind.u64.wrap n ∧ IntKind.u64.wrap n < 18446744073709551616 := by
  simp only [IntKind.wrap, IntKind.bits, IntKind.signed]
  simp
  omega
theorem wraps_u64 (n : Int) (h₀ : 0 ≤ n) (h₁ : n < 2 ^ 64) : IntKind.u64.wrap n = n := by
  simp only [IntKind.wrap, IntKind.bits, IntKind.signed]
  simp
  omega
theorem u64_and255 (x : Int) (h₀ : 0 ≤ x) (h₁ : x < 18446744073709551616) : bits .and .u64 x 255 = x % 256 := bits_mask .u64 64 (by decide) wraps_u64 8 (by decide) x h₀ (by omega)
theorem low_in (n : Int) : 0 ≤ wrap64 (Go.bits .and .u64 (IntKind.u64.wrap n / 1099511627776) 255) ∧ wrap64 (Go.bits .and .u64 (IntKind.u64.wrap n / 1099511627776) 255) ≤ 255 := by
  have h := u64_in n
  have h2 : 0 ≤ IntKind.u64.wrap n / 1099511627776 ∧ IntKind.u64.wrap n / 1099511627776 < 18446744073709551616 := by omega
  rw [u64_and255 _ h2.1 h2.2, w64 _ (by omega) (by omega)]
  omega
theorem next_in (l : List Int) (hl : ∀ x ∈ l, (Lit.int .u8 x).wf = true) (s e : Int) (hs : 0 ≤ s ∧ s ≤ 1000000000000) : ∃ r e', spec_l00Src_next.f l s e = some (r, s + 1, e') ∧ 0 ≤ r ∧ r ≤ 255 := by
  unfold spec_l00Src_next.f
  rw [w64 (s + 1) (by omega) (by omega)]
  by_cases h1 : s < (l.length : Int)
  · obtain ⟨j, rfl⟩ : ∃ j : Nat, s = j := ⟨s.toNat, by omega⟩
    have hr := wfu8 (hl _ (List.getElem_mem (show j < l.length by omega)))
    rw [if_pos h1, if_pos (by omega), if_pos (by omega), rd_at l j (by omega), w64 _ (by omega) (by omega)]
    exact ⟨_, _, rfl, hr.1, hr.2⟩
  · rw [if_neg h1]
    by_cases h2 : s + 1 ≤ (l.length : Int)
    · omega
    · rw [if_neg h2]
      exact ⟨_, _, rfl, (low_in _).1, (low_in _).2⟩
theorem pick_in (l : List Int) (hl : ∀ x ∈ l, (Lit.int .u8 x).wf = true) (s e n : Int) (hs : 0 ≤ s ∧ s ≤ 900000000000) (hn : 1 ≤ n ∧ n ≤ 1000000) : ∃ r s' e', spec_l00Src_pick.f l s e n = some (r, s', e') ∧ (0 ≤ r ∧ r < n) ∧ (s ≤ s' ∧ s' ≤ s + 2) := by
  unfold spec_l00Src_pick.f
  by_cases h1 : n ≤ 1
  · rw [if_pos h1]
    exact ⟨_, _, _, rfl, by omega, by omega⟩
  · rw [if_neg h1]
    obtain ⟨r, e1, h, r1, r2⟩ := next_in l hl s e (by omega)
    rw [h, bind_some_]
    by_cases h2 : n > 200
    · obtain ⟨q, e2, h', q1, q2⟩ := next_in l hl (s + 1) e1 (by omega)
      rw [if_pos h2, h', bind_some_, if_neg (by omega), w64 (r * 256) (by omega) (by omega), w64 (r * 256 + q) (by omega) (by omega)]
      exact ⟨_, _, _, rfl, ⟨Int.tmod_nonneg _ (by omega), Int.tmod_lt_of_pos _ (by omega)⟩, by dsimp only; omega⟩
    · rw [if_neg h2, if_neg (by omega)]
      exact ⟨_, _, _, rfl, ⟨Int.tmod_nonneg _ r1, Int.tmod_lt_of_pos _ (by omega)⟩, by dsimp only; omega⟩

/- An axis that is drawn is valid. -/
theorem oneA_in (l : List Int) (hl : ∀ x ∈ l, (Lit.int .u8 x).wf = true) (s e n : Int) (hs : 0 ≤ s ∧ s ≤ 900000000000) (hn : 1 ≤ n ∧ n ≤ 1000000) : ∃ r s' e', spec_l00Src_one.f l s e n = some (r, s', e') ∧ (s ≤ s' ∧ s' ≤ s + 2) := by
  obtain ⟨r, s', e', h1, _, h2⟩ := pick_in l hl s e n hs hn
  unfold spec_l00Src_one.f
  rw [h1, bind_some_]
  exact ⟨_, _, _, rfl, h2⟩
theorem amongA_in (l : List Int) (hl : ∀ x ∈ l, (Lit.int .u8 x).wf = true) (s e : Int) (hs : 0 ≤ s ∧ s ≤ 900000000000) (xs : List Int) (hx : 1 ≤ xs.length ∧ xs.length ≤ 1000) : ∃ r s' e', spec_l00Src_among.f l s e xs = some (r, s', e') ∧ r ∈ xs ∧ (s ≤ s' ∧ s' ≤ s + 2) := by
  obtain ⟨r, s', e', h1, h2, h3⟩ := pick_in l hl s e (xs.length : Int) hs (by omega)
  unfold spec_l00Src_among.f
  rw [h1, bind_some_]
  dsimp only
  rw [if_pos h2.1, if_pos h2.2]
  obtain ⟨j, rfl⟩ : ∃ j : Nat, r = j := ⟨r.toNat, by omega⟩
  refine ⟨_, _, _, rfl, ?_, h3⟩
  rw [rd_at xs j (by omega)]
  exact List.getElem_mem _
theorem drawPose_j0 (c : List Int) (hc : ∀ x ∈ c, (Lit.int .u8 x).wf = true) (k : Nat) (s e a b u v : Int) (hs : 0 ≤ s ∧ s ≤ 1000) : ∃ a' b' u' v' s' e', spec_l02DrawPose.j0 (k + 1) c s e a b u v = some (a', b', u', v', s', e') ∧ (s ≤ s' ∧ s' ≤ s + 4) := by
  obtain ⟨r, s1, e1, h1, g1⟩ := oneA_in c hc s e 12 (by omega) (by omega)
  simp only [spec_l02DrawPose.j0]
  rw [h1, bind_some_]
  dsimp only
  by_cases h : r = true
  · obtain ⟨z, s2, e2, h2, _, g2⟩ := amongA_in c hc s1 e1 (by omega) [(-400), 395, 400] (by simp)
    rw [if_pos h, h2, bind_some_]
    exact ⟨a, b, u, z, s2, e2, rfl, by omega⟩
  · rw [if_neg h]
    exact ⟨a, b, u, v, s1, e1, rfl, by omega⟩
theorem drawPose_is (c : List Int) (hc : ∀ x ∈ c, (Lit.int .u8 x).wf = true) (k : Nat) (s e : Int) (hs : 0 ≤ s ∧ s ≤ 100) : ∃ a b u v s' e', spec_l02DrawPose.f (k + 1) c s e = some (a, b, u, v, s', e') ∧ (s ≤ s' ∧ s' ≤ s + 20) := by
  obtain ⟨r1, s1, e1, h1, _, g1⟩ := pick_in c hc s e 101 (by omega) (by omega)
  obtain ⟨r2, s2, e2, h2, _, g2⟩ := pick_in c hc s1 e1 101 (by omega) (by omega)
  obtain ⟨r3, s3, e3, h3, _, g3⟩ := pick_in c hc s2 e2 21 (by omega) (by omega)
  obtain ⟨r4, s4, e4, h4, _, g4⟩ := pick_in c hc s3 e3 21 (by omega) (by omega)
  obtain ⟨r5, s5, e5, h5, g5⟩ := oneA_in c hc s4 e4 12 (by omega) (by omega)
  unfold spec_l02DrawPose.f
  rw [h1, bind_some_]
  dsimp only
  rw [h2, bind_some_]
  dsimp only
  rw [h3, bind_some_]
  dsimp only
  rw [h4, bind_some_]
  dsimp only
  rw [h5, bind_some_]
  dsimp only
  by_cases h : r5 = true
  · obtain ⟨z, s6, e6, h6, _, g6⟩ := amongA_in c hc s5 e5 (by omega) [(-100000), 99990, 100000] (by simp)
    rw [if_pos h, h6, bind_some_]
    dsimp only
    obtain ⟨a, b, u, v, s7, e7, h7, g7⟩ := drawPose_j0 c hc k s6 e6 z (wrap64 (r2 - 50)) (wrap64 (r3 - 10)) (wrap64 (r4 - 10)) (by omega)
    exact ⟨a, b, u, v, s7, e7, h7, by omega⟩
  · rw [if_neg h]
    obtain ⟨a, b, u, v, s7, e7, h7, g7⟩ := drawPose_j0 c hc k s5 e5 (wrap64 (r1 - 50)) (wrap64 (r2 - 50)) (wrap64 (r3 - 10)) (wrap64 (r4 - 10)) (by omega)
    exact ⟨a, b, u, v, s7, e7, h7, by omega⟩
def inB (m : Nat) (p : S44) : Prop := (-(400 * (m : Int)) ≤ p.f0 ∧ p.f0 ≤ 400 * (m : Int)) ∧ (-(400 * (m : Int)) ≤ p.f1 ∧ p.f1 ≤ 400 * (m : Int)) ∧ (-(12 * (m : Int)) ≤ p.f2 ∧ p.f2 ≤ 12 * (m : Int)) ∧ (-(12 * (m : Int)) ≤ p.f3 ∧ p.f3 ≤ 12 * (m : Int))
theorem inB_ok {m : Nat} {p : S44} (h : inB m p) (hm : m ≤ 33) : poseOk p = true := by
  obtain ⟨h1, h2, h3, h4⟩ := h
  unfold poseOk
  simp only [Bool.and_eq_true, decide_eq_true_eq]
  omega
theorem inB_next {m : Nat} {p : S44} (h : inB m p) (hm : m ≤ 32) (t : S124) (h1 : -12 ≤ t.f1 ∧ t.f1 ≤ 12) (h2 : -12 ≤ t.f2 ∧ t.f2 ≤ 12) : inB (m + 1) (nextP p t) := by
  obtain ⟨a1, a2, a3, a4⟩ := h
  unfold nextP inB
  dsimp only
  rw [w64 (p.f0 + p.f2) (by omega) (by omega), w64 (p.f1 + p.f3) (by omega) (by omega), w64 (p.f2 + t.f1) (by omega) (by omega), w64 (p.f3 + t.f2) (by omega) (by omega)]
  omega
theorem inB_reps (c : S124) (h1 : -12 ≤ c.f1 ∧ c.f1 ≤ 12) (h2 : -12 ≤ c.f2 ∧ c.f2 ≤ 12) : ∀ (r m : Nat) (p : S44), m + r ≤ 33 → inB m p → (walkT p (repsT r c)).all poseOk = true ∧ inB (m + r) (endT p (repsT r c))
  | 0, m, p, _, h => ⟨rfl, h⟩
  | r + 1, m, p, hm, h => by
    have hn := inB_next h (by omega) ⟨1, c.f1, c.f2⟩ h1 h2
    obtain ⟨i1, i2⟩ := inB_reps c h1 h2 r (m + 1) _ (by omega) hn
    rw [repsT_succ]
    simp only [walkT, endT, List.all_cons, Bool.and_eq_true]
    refine ⟨⟨inB_ok hn (by omega), i1⟩, ?_⟩
    rw [show m + (r + 1) = m + 1 + r by omega]
    exact i2
def ringsN : List S124 → Nat
  | [] => 0
  | c :: cs => c.f0.toNat + ringsN cs
theorem ringsN_app (b : List S124) : ∀ a : List S124, ringsN (a ++ b) = ringsN a + ringsN b
  | [] => by simp [ringsN]
  | c :: a => by
    simp only [List.cons_append, ringsN]
    rw [ringsN_app b a]
    omega
def cvF (c : S124) : Prop := 1 ≤ c.f0 ∧ (-12 ≤ c.f1 ∧ c.f1 ≤ 12) ∧ (-12 ≤ c.f2 ∧ c.f2 ≤ 12)
theorem curves_in : ∀ (cs : List S124) (m : Nat) (p : S44), (∀ c ∈ cs, cvF c) → m + ringsN cs ≤ 33 → inB m p → curvesOk cs m p = true
  | [], _, _, _, _, _ => rfl
  | c :: cs, m, p, hc, hr, hp => by
    obtain ⟨c1, c2, c3⟩ := hc c (by simp)
    simp only [ringsN] at hr
    obtain ⟨i1, i2⟩ := inB_reps c c2 c3 c.f0.toNat m p (by omega) hp
    have ih := curves_in cs (m + c.f0.toNat) _ (fun z hz => hc z (List.mem_cons_of_mem _ hz)) (by omega) i2
    rw [curvesOk_cons]
    simp only [Bool.and_eq_true, decide_eq_true_eq]
    refine ⟨⟨by omega, ?_⟩, i1, ?_⟩
    · unfold turnOk
      simp only [Bool.and_eq_true, decide_eq_true_eq]
      exact ⟨c2, c3⟩
    · rw [show (m : Int) + c.f0 = ((m + c.f0.toNat : Nat) : Int) by omega]
      exact ih
theorem ax_zero (cs : List S124) (hl : 1 ≤ cs.length ∧ cs.length ≤ 8) (hc : ∀ c ∈ cs, cvF c) (hr : ringsN cs ≤ 33) : axOk ⟨0, 0, 0, 0⟩ cs = true := by
  have h := curves_in cs 0 ⟨0, 0, 0, 0⟩ hc (by omega) (by unfold inB; dsimp only; omega)
  unfold axOk
  simp only [Bool.and_eq_true, decide_eq_true_eq]
  exact ⟨by decide, by omega, h⟩
theorem drawAx_end (k : Nat) (hk : 5000 < k) (a b u v : Int) (cs : List S124) (s e : Int) (hl : 1 ≤ cs.length ∧ cs.length ≤ 8) (hc : ∀ c ∈ cs, cvF c) (hr : ringsN cs ≤ 33) : ∃ a' b' u' v' cs', ((spec_l02Is.f k a b u v cs).bind fun t => if t = true then some (a, b, u, v, cs, s, e) else some (0, 0, 0, 0, cs, s, e)) = some (a', b', u', v', cs', s, e) ∧ axOk ⟨a', b', u', v'⟩ cs' = true := by
  rw [specAxis_is k a b u v cs (by omega) hk, bind_some_]
  by_cases h : axOk ⟨a, b, u, v⟩ cs = true
  · rw [if_pos h]
    exact ⟨a, b, u, v, cs, rfl, h⟩
  · rw [if_neg h]
    exact ⟨0, 0, 0, 0, cs, rfl, ax_zero cs hl hc hr⟩
theorem drawAx_l1 (c : List Int) (F : Nat) (hF : 5000 < F) (a b u v s e : Int) : ∀ (d k : Nat) (cs : List S124), cs.length + d = 8 → d + F < k → 1 ≤ cs.length → (∀ z ∈ cs, cvF z) → ringsN cs + d ≤ 33 → ∃ a' b' u' v' cs' s' e', spec_l02DrawOk.l1 k c s e a b u v cs = some (a', b', u', v', cs', s', e') ∧ axOk ⟨a', b', u', v'⟩ cs' = true
  | 0, k, cs, hl, hk, h1, hc, hr => by
    obtain ⟨k, rfl⟩ : ∃ m, k = m + 1 := ⟨k - 1, by omega⟩
    obtain ⟨a', b', u', v', cs', q1, q2⟩ := drawAx_end k (by omega) a b u v cs s e (by omega) hc (by omega)
    simp only [spec_l02DrawOk.l1]
    rw [if_neg (by omega)]
    exact ⟨a', b', u', v', cs', s, e, q1, q2⟩
  | d + 1, k, cs, hl, hk, h1, hc, hr => by
    obtain ⟨k, rfl⟩ : ∃ m, k = m + 1 := ⟨k - 1, by omega⟩
    simp only [spec_l02DrawOk.l1]
    rw [if_pos (by omega), if_pos (by omega)]
    refine drawAx_l1 c F hF a b u v s e d k _ (by rw [List.length_append, List.length_singleton]; omega) (by omega) (by rw [List.length_append, List.length_singleton]; omega) (fun z hz => ?_) ?_
    · rcases List.mem_append.mp hz with h | h
      · exact hc z h
      · rw [List.mem_singleton.mp h]
        unfold cvF
        dsimp only
        omega
    · rw [ringsN_app]
      simp only [ringsN]
      omega
theorem drawAx_l0 (c : List Int) (hc : ∀ x ∈ c, (Lit.int .u8 x).wf = true) (F : Nat) (hF : 6000 < F) (a b u v : Int) : ∀ (d k : Nat) (cs : List S124) (s e : Int), cs.length + d ≤ 5 → 1 ≤ cs.length + d → d + F < k → (∀ z ∈ cs, cvF z) → ringsN cs ≤ 5 * cs.length → (0 ≤ s ∧ s ≤ 100 + 20 * (cs.length : Int)) → ∃ a' b' u' v' cs' s' e', spec_l02DrawOk.l0 k (d : Int) c s e a b u v cs = some (a', b', u', v', cs', s', e') ∧ axOk ⟨a', b', u', v'⟩ cs' = true
  | 0, k, cs, s, e, hl, h1, hk, hcs, hr, hs => by
    obtain ⟨k, rfl⟩ : ∃ m, k = m + 1 := ⟨k - 1, by omega⟩
    obtain ⟨r, s1, e1, q1, g1⟩ := oneA_in c hc s e 10 (by omega) (by omega)
    simp only [spec_l02DrawOk.l0]
    rw [if_neg (by omega), q1, bind_some_]
    dsimp only
    by_cases h : r = true
    · rw [if_pos h]
      exact drawAx_l1 c 5001 (by omega) a b u v s1 e1 (8 - cs.length) k cs (by omega) (by omega) (by omega) hcs (by omega)
    · rw [if_neg h]
      obtain ⟨a', b', u', v', cs', q1, q2⟩ := drawAx_end k (by omega) a b u v cs s1 e1 (by omega) hcs (by omega)
      exact ⟨a', b', u', v', cs', s1, e1, q1, q2⟩
  | d + 1, k, cs, s, e, hl, h1, hk, hcs, hr, hs => by
    obtain ⟨k, rfl⟩ : ∃ m, k = m + 1 := ⟨k - 1, by omega⟩
    obtain ⟨r1, s1, e1, q1, p1, g1⟩ := pick_in c hc s e 5 (by omega) (by omega)
    obtain ⟨r2, s2, e2, q2, p2, g2⟩ := pick_in c hc s1 e1 5 (by omega) (by omega)
    obtain ⟨r3, s3, e3, q3, p3, g3⟩ := pick_in c hc s2 e2 5 (by omega) (by omega)
    obtain ⟨r4, s4, e4, q4, g4⟩ := oneA_in c hc s3 e3 10 (by omega) (by omega)
    have hw : wrap64 (((d + 1 : Nat) : Int) - 1) = (d : Int) := by rw [w64 _ (by omega) (by omega)]; omega
    have t1 : wrap64 (1 + r1) = 1 + r1 := w64 _ (by omega) (by omega)
    have t2 : wrap64 (r2 - 2) = r2 - 2 := w64 _ (by omega) (by omega)
    have t3 : wrap64 (r3 - 2) = r3 - 2 := w64 _ (by omega) (by omega)
    simp only [spec_l02DrawOk.l0]
    rw [if_pos (by omega), q1, bind_some_]
    dsimp only
    rw [q2, bind_some_]
    dsimp only
    rw [q3, bind_some_]
    dsimp only
    rw [q4, bind_some_]
    dsimp only
    rw [hw, t1, t2, t3]
    clear hw t1 t2 t3
    have hstep : ∀ (z : Int) (s' e' : Int), (-12 ≤ z ∧ z ≤ 12) → (0 ≤ s' ∧ s' ≤ s + 20) → ∃ a' b' u' v' cs' s'' e'', spec_l02DrawOk.l0 k (d : Int) c s' e' a b u v (cs ++ [(⟨1 + r1, z, r3 - 2⟩ : S124)]) = some (a', b', u', v', cs', s'', e'') ∧ axOk ⟨a', b', u', v'⟩ cs' = true := fun z s' e' hz hs' => by
      refine drawAx_l0 c hc F hF a b u v d k _ s' e' (by rw [List.length_append, List.length_singleton]; omega) (by rw [List.length_append, List.length_singleton]; omega) (by omega) (fun y hy => ?_) ?_ (by rw [List.length_append, List.length_singleton]; omega)
      · rcases List.mem_append.mp hy with h | h
        · exact hcs y h
        · rw [List.mem_singleton.mp h]
          unfold cvF
          dsimp only
          omega
      · rw [ringsN_app, List.length_append, List.length_singleton]
        simp only [ringsN]
        omega
    by_cases h : r4 = true
    · obtain ⟨z, s5, e5, q5, p5, g5⟩ := amongA_in c hc s4 e4 (by omega) [(-12), 12] (by simp)
      rw [if_pos h, q5, bind_some_]
      dsimp only
      rw [if_pos (by omega)]
      exact hstep z s5 e5 (by simp at p5; omega) (by omega)
    · rw [if_neg h, if_pos (by omega)]
      exact hstep (r2 - 2) s4 e4 (by omega) (by omega)
theorem drawAxis_is (c : List Int) (hc : ∀ x ∈ c, (Lit.int .u8 x).wf = true) (k : Nat) (hk : 7000 < k) : ∃ a b u v cs, spec_R8Axis.f k c = some (a, b, u, v, cs) ∧ axOk ⟨a, b, u, v⟩ cs = true := by
  obtain ⟨K, rfl⟩ : ∃ m, k = m + 1 := ⟨k - 1, by omega⟩
  obtain ⟨a, b, u, v, s1, e1, q1, g1⟩ := drawPose_is c hc K 0 0 (by omega)
  obtain ⟨r, s2, e2, q2, p2, g2⟩ := pick_in c hc s1 e1 5 (by omega) (by omega)
  obtain ⟨n, rfl⟩ : ∃ n : Nat, r = n := ⟨r.toNat, by omega⟩
  have hw : wrap64 (1 + (n : Int)) = ((n + 1 : Nat) : Int) := by rw [w64 _ (by omega) (by omega)]; omega
  obtain ⟨a', b', u', v', cs', s', e', q3, h3⟩ := drawAx_l0 c hc 6001 (by omega) a b u v (n + 1) (K + 1) [] s2 e2 (by simp; omega) (by simp) (by omega) (by simp) (by simp [ringsN]) (by simp; omega)
  unfold spec_R8Axis.f spec_l00From.f
  rw [bind_some_]
  dsimp only
  unfold spec_l02DrawOk.f
  rw [q1, bind_some_]
  dsimp only
  rw [q2, bind_some_]
  dsimp only
  rw [hw, q3, bind_some_]
  exact ⟨a', b', u', v', cs', rfl, h3⟩

/- A ground that is drawn is valid. -/
theorem oneG_in (l : List Int) (hl : ∀ x ∈ l, (Lit.int .u8 x).wf = true) (s e n : Int) (hs : 0 ≤ s ∧ s ≤ 900000000000) (hn : 1 ≤ n ∧ n ≤ 1000000) : ∃ r s' e', spec_l00Src_one.f l s e n = some (r, s', e') ∧ (s ≤ s' ∧ s' ≤ s + 2) := by
  obtain ⟨r, s', e', h1, _, h2⟩ := pick_in l hl s e n hs hn
  unfold spec_l00Src_one.f
  rw [h1, bind_some_]
  exact ⟨_, _, _, rfl, h2⟩
theorem tops_make (n : Nat) (l : List Int) (h1 : l.length = n) (h2 : ∀ v ∈ l, -100000 ≤ v ∧ v ≤ 100000) (h3 : l.Pairwise (fun a b => b ≤ a)) : topsOk (n : Int) l = true := by
  unfold topsOk impl_areWithin.all
  simp only [Bool.and_eq_true, decide_eq_true_eq, List.all_eq_true, upTo_iff]
  refine ⟨by omega, h2, fun j _ hj => ?_⟩
  unfold dnOk
  simp only [Bool.or_eq_true, decide_eq_true_eq]
  by_cases c : j = 0
  · exact Or.inl c
  · right
    rw [rd_at l j (by omega), rd_at l (j - 1) (by omega)]
    exact List.pairwise_iff_getElem.mp h3 (j - 1) j (by omega) (by omega) (by omega)
theorem gr_make (ds : List Int) (hs : List S59) (h1 : 1 ≤ ds.length ∧ ds.length ≤ 4) (h2 : ∀ v ∈ ds, 1 ≤ v ∧ v ≤ 3000) (h3 : 1 ≤ hs.length ∧ hs.length ≤ 6) (h4 : ∀ h ∈ hs, (0 ≤ h.f0 ∧ h.f0 ≤ 60) ∧ topsOk (ds.length : Int) h.f1 = true) (h5 : hs.Pairwise (fun a b => a.f0 < b.f0)) : grOk ds hs = true := by
  unfold grOk impl_areWithin.all
  simp only [Bool.and_eq_true, decide_eq_true_eq, List.all_eq_true, upTo_iff]
  refine ⟨by omega, h2, by omega, fun j _ hj => ?_⟩
  have hm := h4 hs[j] (List.getElem_mem (by omega))
  unfold holeOk
  simp only [Bool.and_eq_true, Bool.or_eq_true, decide_eq_true_eq]
  rw [rdHole_at hs j (by omega)]
  refine ⟨hm.1, hm.2, ?_⟩
  by_cases c : j = 0
  · exact Or.inl c
  · right
    rw [rdHole_at hs (j - 1) (by omega)]
    exact List.pairwise_iff_getElem.mp h5 (j - 1) j (by omega) (by omega) (by omega)
theorem drawHole_l0 (c : List Int) (hc : ∀ x ∈ c, (Lit.int .u8 x).wf = true) (n : Nat) (hn : n ≤ 4) (ring : Int) : ∀ (d k : Nat) (top s e : Int) (ts : List Int), ts.length + d = n → d < k → (4000 - 4000 * (ts.length : Int) ≤ top ∧ top ≤ 8000) → (∀ v ∈ ts, top ≤ v ∧ v ≤ 8000) → ts.Pairwise (fun a b => b ≤ a) → (0 ≤ s ∧ s ≤ 10000 + 6 * (ts.length : Int)) → ∃ t' s' e', spec_l06DrawHole.l0 k (n : Int) top (ts.length : Int) c s e ring ts = some (ring, t', s', e') ∧ topsOk (n : Int) t' = true ∧ (s ≤ s' ∧ s' ≤ s + 6 * (d : Int))
  | 0, k, top, s, e, ts, hl, hk, ht, hv, hp, hs => by
    obtain ⟨k, rfl⟩ : ∃ m, k = m + 1 := ⟨k - 1, by omega⟩
    simp only [spec_l06DrawHole.l0]
    rw [if_neg (by omega)]
    exact ⟨ts, s, e, rfl, tops_make n ts (by omega) (fun v hm => by have := hv v hm; omega) hp, by omega⟩
  | d + 1, k, top, s, e, ts, hl, hk, ht, hv, hp, hs => by
    obtain ⟨k, rfl⟩ : ∃ m, k = m + 1 := ⟨k - 1, by omega⟩
    obtain ⟨r1, s1, e1, q1, p1, g1⟩ := pick_in c hc s e 40 (by omega) (by omega)
    obtain ⟨r2, s2, e2, q2, g2⟩ := oneG_in c hc s1 e1 6 (by omega) (by omega)
    have hstep : ∀ (z s' e' : Int), (4000 - 4000 * ((ts.length : Int) + 1) ≤ z ∧ z ≤ top) → (s ≤ s' ∧ s' ≤ s + 6) → ∃ t' s'' e'', spec_l06DrawHole.l0 k (n : Int) z ((ts.length : Int) + 1) c s' e' ring (ts ++ [top]) = some (ring, t', s'', e'') ∧ topsOk (n : Int) t' = true ∧ (s ≤ s'' ∧ s'' ≤ s + 6 * ((d + 1 : Nat) : Int)) := fun z s' e' hz hs' => by
      have hlen : (ts ++ [top]).length = ts.length + 1 := by simp
      obtain ⟨t', s'', e'', h1, h2, h3⟩ := drawHole_l0 c hc n hn ring d k z s' e' (ts ++ [top]) (by omega) (by omega) (by omega) (fun v hm => by
        rcases List.mem_append.mp hm with h | h
        · have := hv v h; omega
        · rw [List.mem_singleton.mp h]; omega) (by
        rw [List.pairwise_append]
        refine ⟨hp, List.pairwise_singleton _ _, fun a ha b hb => ?_⟩
        rw [List.mem_singleton.mp hb]
        exact (hv a ha).1) (by omega)
      rw [hlen, Int.natCast_add] at h1
      exact ⟨t', s'', e'', h1, h2, by omega⟩
    simp only [spec_l06DrawHole.l0]
    rw [if_pos (by omega), if_pos (by omega), bind_some_, q1, bind_some_]
    dsimp only
    rw [q2, bind_some_]
    dsimp only
    have t1 : wrap64 (top - wrap64 (100 * r1)) = top - 100 * r1 := by rw [w64 (100 * r1) (by omega) (by omega), w64 _ (by omega) (by omega)]
    rw [t1]
    clear t1
    have hi : wrap64 ((ts.length : Int) + 1) = (ts.length : Int) + 1 := w64 _ (by omega) (by omega)
    rw [hi]
    clear hi
    by_cases h : r2 = true
    · obtain ⟨r3, s3, e3, q3, p3, g3⟩ := pick_in c hc s2 e2 3 (by omega) (by omega)
      have t2 : wrap64 (top - 100 * r1 - r3) = top - 100 * r1 - r3 := w64 _ (by omega) (by omega)
      rw [if_pos h, q3, bind_some_]
      dsimp only
      rw [t2]
      exact hstep _ s3 e3 (by omega) (by omega)
    · rw [if_neg h]
      exact hstep _ s2 e2 (by omega) (by omega)
theorem drawHole_is (c : List Int) (hc : ∀ x ∈ c, (Lit.int .u8 x).wf = true) (n : Nat) (hn : n ≤ 4) (ring s e : Int) (k : Nat) (hk : 10 ≤ k) (hs : 0 ≤ s ∧ s ≤ 9000) : ∃ t' s' e', spec_l06DrawHole.f k c s e ring (n : Int) = some (ring, t', s', e') ∧ topsOk (n : Int) t' = true ∧ (s ≤ s' ∧ s' ≤ s + 30) := by
  obtain ⟨r1, s1, e1, q1, p1, g1⟩ := pick_in c hc s e 40 (by omega) (by omega)
  have t1 : wrap64 (4000 + wrap64 (100 * r1)) = 4000 + 100 * r1 := by rw [w64 (100 * r1) (by omega) (by omega), w64 _ (by omega) (by omega)]
  obtain ⟨t', s', e', h1, h2, h3⟩ := drawHole_l0 c hc n hn ring n k (4000 + 100 * r1) s1 e1 [] (by simp) (by omega) (by simp only [List.length_nil]; omega) (by simp) List.Pairwise.nil (by simp only [List.length_nil]; omega)
  unfold spec_l06DrawHole.f
  rw [q1, bind_some_]
  dsimp only
  rw [t1]
  exact ⟨t', s', e', h1, h2, by omega⟩
theorem drawGr_l1 (c : List Int) (hc : ∀ x ∈ c, (Lit.int .u8 x).wf = true) (ds : List Int) (h1 : 1 ≤ ds.length ∧ ds.length ≤ 4) (h2 : ∀ v ∈ ds, 1 ≤ v ∧ v ≤ 3000) : ∀ (d k : Nat) (ring s e : Int) (hs : List S59), hs.length + d ≤ 4 → 1 ≤ hs.length + d → d + 20 < k → (0 ≤ ring ∧ ring ≤ 3 + 12 * (hs.length : Int)) → (∀ h ∈ hs, (0 ≤ h.f0 ∧ h.f0 ≤ 60) ∧ topsOk (ds.length : Int) h.f1 = true) → (∀ h ∈ hs, h.f0 < ring) → hs.Pairwise (fun a b => a.f0 < b.f0) → (0 ≤ s ∧ s ≤ 1000 + 100 * (hs.length : Int)) → ∃ hs' s' e', spec_l06DrawOk.l1 k ring (d : Int) c s e ds hs = some (ds, hs', s', e') ∧ grOk ds hs' = true
  | 0, k, ring, s, e, hs, hl, h0, hk, hr, ho, hlt, hp, hss => by
    obtain ⟨k, rfl⟩ : ∃ m, k = m + 1 := ⟨k - 1, by omega⟩
    simp only [spec_l06DrawOk.l1]
    rw [if_neg (by omega)]
    exact ⟨hs, s, e, rfl, gr_make ds hs h1 h2 (by omega) ho hp⟩
  | d + 1, k, ring, s, e, hs, hl, h0, hk, hr, ho, hlt, hp, hss => by
    obtain ⟨k, rfl⟩ : ∃ m, k = m + 1 := ⟨k - 1, by omega⟩
    obtain ⟨t', s1, e1, q1, p1, g1⟩ := drawHole_is c hc ds.length (by omega) ring s e k (by omega) (by omega)
    obtain ⟨r, s2, e2, q2, p2, g2⟩ := pick_in c hc s1 e1 12 (by omega) (by omega)
    have hd : wrap64 (((d + 1 : Nat) : Int) - 1) = (d : Int) := by rw [w64 _ (by omega) (by omega)]; omega
    have hw : wrap64 (ring + wrap64 (1 + r)) = ring + (1 + r) := by rw [w64 (1 + r) (by omega) (by omega), w64 _ (by omega) (by omega)]
    simp only [spec_l06DrawOk.l1]
    rw [if_pos (by omega), q1, bind_some_]
    dsimp only
    rw [if_pos (by omega), q2, bind_some_]
    dsimp only
    rw [hd, hw]
    clear hd hw
    have hlen : (hs ++ [(⟨ring, t'⟩ : S59)]).length = hs.length + 1 := by simp
    refine drawGr_l1 c hc ds h1 h2 d k _ s2 e2 _ (by omega) (by omega) (by omega) (by omega) (fun h hm => ?_) (fun h hm => ?_) ?_ (by omega)
    · rcases List.mem_append.mp hm with q | q
      · exact ho h q
      · rw [List.mem_singleton.mp q]
        exact ⟨by dsimp only; omega, p1⟩
    · rcases List.mem_append.mp hm with q | q
      · have := hlt h q; omega
      · rw [List.mem_singleton.mp q]; dsimp only; omega
    · rw [List.pairwise_append]
      refine ⟨hp, List.pairwise_singleton _ _, fun a ha b hb => ?_⟩
      rw [List.mem_singleton.mp hb]
      exact hlt a ha
theorem drawGr_l0 (c : List Int) (hc : ∀ x ∈ c, (Lit.int .u8 x).wf = true) : ∀ (d k : Nat) (s e : Int) (ds : List Int), ds.length + d ≤ 4 → 1 ≤ ds.length + d → d + 50 < k → (∀ v ∈ ds, 1 ≤ v ∧ v ≤ 3000) → (0 ≤ s ∧ s ≤ 100 + 10 * (ds.length : Int)) → ∃ ds' hs' s' e', spec_l06DrawOk.l0 k (d : Int) c s e ds [] = some (ds', hs', s', e') ∧ grOk ds' hs' = true
  | 0, k, s, e, ds, hl, h0, hk, hv, hs => by
    obtain ⟨k, rfl⟩ : ∃ m, k = m + 1 := ⟨k - 1, by omega⟩
    obtain ⟨r1, s1, e1, q1, p1, g1⟩ := pick_in c hc s e 4 (by omega) (by omega)
    obtain ⟨r2, s2, e2, q2, p2, g2⟩ := pick_in c hc s1 e1 4 (by omega) (by omega)
    obtain ⟨n, rfl⟩ : ∃ n : Nat, r2 = n := ⟨r2.toNat, by omega⟩
    have hw : wrap64 (1 + (n : Int)) = ((n + 1 : Nat) : Int) := by rw [w64 _ (by omega) (by omega)]; omega
    obtain ⟨hs', s', e', q3, h3⟩ := drawGr_l1 c hc ds (by omega) hv (n + 1) k r1 s2 e2 [] (by simp only [List.length_nil]; omega) (by omega) (by omega) (by simp only [List.length_nil]; omega) (by simp) (by simp) List.Pairwise.nil (by simp only [List.length_nil]; omega)
    simp only [spec_l06DrawOk.l0]
    rw [if_neg (by omega), q1, bind_some_]
    dsimp only
    rw [q2, bind_some_]
    dsimp only
    rw [hw, q3]
    exact ⟨ds, hs', s', e', rfl, h3⟩
  | d + 1, k, s, e, ds, hl, h0, hk, hv, hs => by
    obtain ⟨k, rfl⟩ : ∃ m, k = m + 1 := ⟨k - 1, by omega⟩
    obtain ⟨r1, s1, e1, q1, p1, g1⟩ := pick_in c hc s e 900 (by omega) (by omega)
    have hd : wrap64 (((d + 1 : Nat) : Int) - 1) = (d : Int) := by rw [w64 _ (by omega) (by omega)]; omega
    have hw : wrap64 (1500 + r1) = 1500 + r1 := w64 _ (by omega) (by omega)
    have hlen : (ds ++ [1500 + r1]).length = ds.length + 1 := by simp
    simp only [spec_l06DrawOk.l0]
    rw [if_pos (by omega), q1, bind_some_]
    dsimp only
    rw [if_pos (by omega), hd, hw]
    clear hd hw
    refine drawGr_l0 c hc d k s1 e1 _ (by omega) (by omega) (by omega) (fun v hm => ?_) (by omega)
    rcases List.mem_append.mp hm with h | h
    · exact hv v h
    · rw [List.mem_singleton.mp h]; omega
theorem drawGround_is (c : List Int) (hc : ∀ x ∈ c, (Lit.int .u8 x).wf = true) (k : Nat) (hk : 100 ≤ k) : ∃ ds hs, spec_R8Ground.f k c = some (ds, hs) ∧ grOk ds hs = true := by
  obtain ⟨r, s1, e1, q1, p1, g1⟩ := pick_in c hc 0 0 4 (by omega) (by omega)
  obtain ⟨n, rfl⟩ : ∃ n : Nat, r = n := ⟨r.toNat, by omega⟩
  have hw : wrap64 (1 + (n : Int)) = ((n + 1 : Nat) : Int) := by rw [w64 _ (by omega) (by omega)]; omega
  obtain ⟨ds', hs', s', e', q2, h2⟩ := drawGr_l0 c hc (n + 1) k s1 e1 [] (by simp only [List.length_nil]; omega) (by omega) (by omega) (by simp) (by simp only [List.length_nil]; omega)
  unfold spec_R8Ground.f spec_l00From.f
  rw [bind_some_]
  dsimp only
  unfold spec_l06DrawOk.f
  rw [q1, bind_some_]
  dsimp only
  rw [hw, q2, bind_some_]
  exact ⟨ds', hs', rfl, h2⟩


mutual
def spec_MixedRings.j0 : Nat → Bool → List Int → List (S59) → Int → Int → Int → Int → List (S124) → Option (List Int × Bool)
 | 0, _, _, _, _, _, _, _, _ => none
 | k + 1, x17, x884000, x884001, x885000, x885001, x885002, x885003, x885004 => if x17 = true then (some (([] : List Int), false)) else ((spec_l02Poses.f k x885000 x885001 x885002 x885003 x885004).bind fun t887 => (spec_MixedRings.l0 k t887 (([] : List Int)) 0 x884000 x884001))
def spec_MixedRings.l0 : Nat → List (S44) → List Int → Int → List Int → List (S59) → Option (List Int × Bool)
 | 0, _, _, _, _, _ => none
 | k + 1, x6, x7, x8, x884000, x884001 => if x8 < (wrap64 ((x6.length : Int) - 1)) then (if 0 ≤ x8 then (if x8 < (x6.length : Int) then ((spec_l06Face.f k x884000 x884001 x8 ((rd_T44 x6 x8).f1)).bind fun t894 => (spec_MixedRings.l1 k x6 x7 x8 t894 0 0 x884000 x884001)) else (none)) else (none)) else (some (x7, true))
def spec_MixedRings.l1 : Nat → List (S44) → List Int → Int → List Int → Int → Int → List Int → List (S59) → Option (List Int × Bool)
 | 0, _, _, _, _, _, _, _, _ => none
 | k + 1, x6, x7, x8, x9, x10, x11, x884000, x884001 => if x11 < (x884000.length : Int) then (if 0 ≤ x11 then (if x11 < (x9.length : Int) then (if (rd x9 x11) > 0 then (spec_MixedRings.l1 k x6 x7 x8 x9 (wrap64 (x10 + 1)) (wrap64 (x11 + 1)) x884000 x884001) else (spec_MixedRings.l1 k x6 x7 x8 x9 x10 (wrap64 (x11 + 1)) x884000 x884001)) else (none)) else (none)) else (if x10 > 1 then (if x7.length < 17592186044416 then (spec_MixedRings.l0 k x6 (x7 ++ [x8]) (wrap64 (x8 + 1)) x884000 x884001) else (none)) else (spec_MixedRings.l0 k x6 x7 (wrap64 (x8 + 1)) x884000 x884001))
end
/- The mixed rings along an axis, as both sides reckon them. -/
def cntGo (f : List Int) : Nat → Nat → Int → Int
  | 0, _, c => c
  | d + 1, j, c => cntGo f d (j + 1) (if rd f (j : Int) > 0 then wrap64 (c + 1) else c)
def isMixed (ds : List Int) (hs : List S59) (P : List S44) (i : Nat) : Prop := cntGo (faceOf (topsAt hs i) (rd_T44 P (i : Int)).f1) ds.length 0 0 ≥ 2
instance (ds : List Int) (hs : List S59) (P : List S44) (i : Nat) : Decidable (isMixed ds hs P i) := inferInstanceAs (Decidable (_ ≥ _))
def mixGo (ds : List Int) (hs : List S59) (P : List S44) : Nat → Nat → List Int
  | 0, _ => []
  | d + 1, i => if isMixed ds hs P i then (i : Int) :: mixGo ds hs P d (i + 1) else mixGo ds hs P d (i + 1)
def mixedOf (ds : List Int) (hs : List S59) (P : List S44) : List Int := mixGo ds hs P (P.length - 1) 0
theorem mixGo_len (ds : List Int) (hs : List S59) (P : List S44) : ∀ d i : Nat, (mixGo ds hs P d i).length ≤ d
  | 0, _ => Nat.le_refl _
  | d + 1, i => by
    have := mixGo_len ds hs P d (i + 1)
    simp only [mixGo]
    split
    · rw [List.length_cons]; omega
    · omega
theorem rd_takeF (l : List Int) (n j : Nat) (h : j < n) (hn : n ≤ l.length) : rd (l.take n) (j : Int) = rd l (j : Int) := by
  rw [rd_at _ j (by rw [List.length_take]; omega), rd_at _ j (by omega), List.getElem_take]
theorem implMix_l1 (ds : List Int) (hs : List S59) (R : List S44) (m : Int) (i : Nat) (hi : i ≤ 1000) (f : List Int) (n : Nat) (hn : n ≤ f.length) (hb : n ≤ 1000) (acc : List Int) (ha : acc.length ≤ 1000) : ∀ (d k j : Nat) (c : Int), j + d = n → d < k → impl_MixedRings.l1 k acc i c R m i (f.take n) n j ds hs = impl_MixedRings.l0 (k - (d + 1)) (if cntGo f d j c ≥ 2 then acc ++ [(i : Int)] else acc) R m ((i + 1 : Nat) : Int) ds hs := by
  intro d
  have hl : (f.take n).length = n := by rw [List.length_take]; omega
  induction d with
  | zero =>
    intro k j c hj hk
    obtain ⟨k, rfl⟩ : ∃ m, k = m + 1 := ⟨k - 1, by omega⟩
    simp only [impl_MixedRings.l1]
    rw [show cntGo f 0 j c = c from rfl, if_neg (by omega), w64s i (by omega)]
    by_cases q : c ≥ 2
    · rw [if_pos q, if_pos q, if_pos (by omega)]
      rfl
    · rw [if_neg q, if_neg q]
      rfl
  | succ d ih =>
    intro k j c hj hk
    obtain ⟨k, rfl⟩ : ∃ m, k = m + 1 := ⟨k - 1, by omega⟩
    simp only [impl_MixedRings.l1]
    rw [show cntGo f (d + 1) j c = cntGo f d (j + 1) (if rd f (j : Int) > 0 then wrap64 (c + 1) else c) from rfl, if_pos (by omega), if_pos (by omega), if_pos (by omega), rd_takeF f n j (by omega) hn, w64s j (by omega)]
    by_cases q : rd f (j : Int) > 0
    · rw [if_pos q, if_pos q, ih k (j + 1) _ (by omega) (by omega), Nat.add_sub_add_right]
    · rw [if_neg q, if_neg q, ih k (j + 1) _ (by omega) (by omega), Nat.add_sub_add_right]
theorem implMixed_l0 (ds : List Int) (hs : List S59) (hg : grOk ds hs = true) (P : List S44) (n : Nat) (hn : n ≤ P.length) (hb : n ≤ 900) : ∀ (d k i : Nat) (acc : List Int), i + d = n → 6000000 + 10 * d < k → acc.length ≤ i → impl_MixedRings.l0 k acc (P.take n) n i ds hs = some (acc ++ mixGo ds hs P d i, true) := by
  intro d
  have hl : (P.take n).length = n := by rw [List.length_take]; omega
  have h4 := (grOk_in hg).1
  induction d with
  | zero =>
    intro k i acc hi hk ha
    obtain ⟨k, rfl⟩ : ∃ m, k = m + 1 := ⟨k - 1, by omega⟩
    simp only [impl_MixedRings.l0, mixGo]
    rw [if_neg (by omega), List.append_nil]
  | succ d ih =>
    intro k i acc hi hk ha
    obtain ⟨k, rfl⟩ : ∃ m, k = m + 1 := ⟨k - 1, by omega⟩
    have hfl : (faceOf (topsAt hs i) (rd_T44 P (i : Int)).f1).length = ds.length + 1 := by rw [faceOf_len, topsAt_len hg]
    have htl : ((faceOf (topsAt hs i) (rd_T44 P (i : Int)).f1).take ds.length).length = ds.length := by rw [List.length_take]; omega
    have hz := implMix_l1 ds hs (P.take n) n i (by omega) (faceOf (topsAt hs i) (rd_T44 P (i : Int)).f1) ds.length (by omega) (by omega) acc (by omega) ds.length k 0 0 (by omega) (by omega)
    rw [show ((0 : Nat) : Int) = 0 from rfl] at hz
    simp only [impl_MixedRings.l0, mixGo]
    rw [if_pos (by omega), if_pos (by omega), if_pos (by omega), rdPose_take P n i (by omega) hn, implFace_is k ds hs i _ hg (by omega), bind_some_, if_pos (by omega), if_pos (by omega), bind_some_, Int.toNat_natCast, htl, hz]
    by_cases q : isMixed ds hs P i
    · rw [if_pos q, if_pos (show cntGo _ _ _ _ ≥ 2 from q), ih _ (i + 1) _ (by omega) (by omega) (by simp; omega)]
      simp
    · rw [if_neg q, if_neg (show ¬ cntGo _ _ _ _ ≥ 2 from q), ih _ (i + 1) _ (by omega) (by omega) (by omega)]
theorem implMixed_is (k : Nat) (ds : List Int) (hs : List S59) (a b u v : Int) (cs : List S124) (hp : shortH hs) (hb : cs.length ≤ 1048576) (hk : 7000000 < k) : impl_MixedRings.f k ds hs a b u v cs = some (alongP (mixedOf ds hs) ds hs ⟨a, b, u, v⟩ cs) := by
  unfold impl_MixedRings.f alongP
  rw [implAlong_is k ds hs a b u v cs hp hb (by omega), bind_some_]
  by_cases c : (grOk ds hs && axOk ⟨a, b, u, v⟩ cs) = true
  · have c2 := c
    rw [Bool.and_eq_true] at c2
    have hl := posesOf_len c2.2
    rw [if_pos c, if_pos c]
    try dsimp only
    have hlt : ((posesOf ⟨a, b, u, v⟩ cs).take ((posesOf ⟨a, b, u, v⟩ cs).length - 1)).length = (posesOf ⟨a, b, u, v⟩ cs).length - 1 := by rw [List.length_take]; omega
    have hz := implMixed_l0 ds hs c2.1 (posesOf ⟨a, b, u, v⟩ cs) ((posesOf ⟨a, b, u, v⟩ cs).length - 1) (by omega) (by omega) ((posesOf ⟨a, b, u, v⟩ cs).length - 1) k 0 [] (by omega) (by omega) (by simp)
    rw [show ((0 : Nat) : Int) = 0 from rfl, List.nil_append] at hz
    rw [if_pos rfl, hlt, hz]
    rfl
  · rw [if_neg c, if_neg c]
    try dsimp only
    rw [if_neg (by simp)]
/- A number is in a list, as another law asks it. -/
theorem r8Has_loop (l : List Int) (n : Int) (hb : l.length ≤ 9223372036854775806) : ∀ (d k i : Nat), i + d = l.length → d < k → laws_r8Has.l0 k l n i = some (decide (n ∈ l.drop i)) := by
  intro d
  induction d with
  | zero =>
    intro k i hi hk
    obtain ⟨k, rfl⟩ : ∃ m, k = m + 1 := ⟨k - 1, by omega⟩
    simp only [laws_r8Has.l0]
    rw [if_neg (by omega), List.drop_of_length_le (by omega)]
    simp
  | succ d ih =>
    intro k i hi hk
    obtain ⟨k, rfl⟩ : ∃ m, k = m + 1 := ⟨k - 1, by omega⟩
    simp only [laws_r8Has.l0]
    rw [if_pos (by omega), if_pos (by omega), w64s i (by omega), ih k (i + 1) (by omega) (by omega), drop_at l i (by omega)]
    by_cases h : rd l i = n
    · rw [if_pos h]; simp [h]
    · rw [if_neg h]
      have h2 : ¬ n = rd l i := fun e => h e.symm
      simp [h2]
theorem r8Has_is (k : Nat) (l : List Int) (n : Int) (hb : l.length ≤ 9223372036854775806) (hk : l.length < k) : laws_r8Has.f k l n = some (decide (n ∈ l)) := by
  unfold laws_r8Has.f
  have := r8Has_loop l n hb l.length k 0 (by omega) hk
  simpa using this

end Go.Proofs.Ytgfpbiaocokdeaa.P
