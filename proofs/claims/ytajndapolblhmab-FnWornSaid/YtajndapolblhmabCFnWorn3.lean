/- What the claim of FnWorn bears, part 3: functions of the program as plain Lean functions, with proofs that the code comes to their answers, and lemmas on them. -/
import Derived.Test.YtajndapolblhmabCFnWorn0
import Derived.Test.YtajndapolblhmabCFnWorn1
import Derived.Test.YtajndapolblhmabCFnWorn2
namespace Go.Proofs.Ytajndapolblhmab.P
open Go.RowKit Go.Proofs.YtajndapolblhmabW.PrintWords Go.Proofs.YtajndapolblhmabW.PrintLast Go.Proofs.YtajndapolblhmabW.PrintMore
attribute [local go_sem] max2_int min2_int max_two min_two max_three min_three max_four min_four   -- for this text's walks alone
set_option linter.unusedVariables false
set_option linter.unusedSimpArgs false

mutual
def laws_FnWorn.j0 : Nat → List (S94) → List Int → Int → Int → Bool → Bool → List (S79) → List Int → List Int → Int → Int → Option (Bool)
 | 0, _, _, _, _, _, _, _, _, _, _, _ => none
 | k + 1, x6, x7, x9, x10, x11, x62, x771000, x771001, x771002, x771003, x771004 => if x62 = true then (some false) else (laws_FnWorn.l0 k x6 x7 x9 x10 x11 0 x771000 x771001 x771002 x771003 x771004)
def laws_FnWorn.l0 : Nat → List (S94) → List Int → Int → Int → Bool → Int → List (S79) → List Int → List Int → Int → Int → Option (Bool)
 | 0, _, _, _, _, _, _, _, _, _, _, _ => none
 | k + 1, x6, x7, x9, x10, x11, x12, x771000, x771001, x771002, x771003, x771004 => if x12 < (x7.length : Int) then (if 0 ≤ x12 then (if (rd x7 x12) = 0 then (laws_FnWorn.l0 k x6 x7 x9 x10 x11 (wrap64 (x12 + 1)) x771000 x771001 x771002 x771003 x771004) else (some false)) else (none)) else (laws_FnWorn.l1 k x6 x7 x9 x10 x11 false 0 x771000 x771001 x771002 x771003 x771004)
def laws_FnWorn.l1 : Nat → List (S94) → List Int → Int → Int → Bool → Bool → Int → List (S79) → List Int → List Int → Int → Int → Option (Bool)
 | 0, _, _, _, _, _, _, _, _, _, _, _, _ => none
 | k + 1, x6, x7, x9, x10, x11, x13, x14, x771000, x771001, x771002, x771003, x771004 => if x14 < (x771001.length : Int) then ((impl_WornAt.f k x771000 x771001 x771002 x771003 x771004 x6 (wrap64 (x14 + 1))).bind fun bt784 => (if bt784.2 = true then (laws_FnWorn.j3 k x6 x7 x9 x10 x11 x13 x14 bt784.1 ((bt784.1.length : Int) != (x771000.length : Int)) x771000 x771001 x771002 x771003 x771004) else (laws_FnWorn.j3 k x6 x7 x9 x10 x11 x13 x14 bt784.1 true x771000 x771001 x771002 x771003 x771004))) else (some (x13 == x11))
def laws_FnWorn.j3 : Nat → List (S94) → List Int → Int → Int → Bool → Bool → Int → List Int → Bool → List (S79) → List Int → List Int → Int → Int → Option (Bool)
 | 0, _, _, _, _, _, _, _, _, _, _, _, _, _, _ => none
 | k + 1, x6, x7, x9, x10, x11, x13, x14, x15, x98, x771000, x771001, x771002, x771003, x771004 => if x98 = true then (some false) else (laws_FnWorn.l2 k x6 x7 x9 x10 x11 x13 x14 x15 0 x771000 x771001 x771002 x771003 x771004)
def laws_FnWorn.l2 : Nat → List (S94) → List Int → Int → Int → Bool → Bool → Int → List Int → Int → List (S79) → List Int → List Int → Int → Int → Option (Bool)
 | 0, _, _, _, _, _, _, _, _, _, _, _, _, _, _ => none
 | k + 1, x6, x7, x9, x10, x11, x13, x14, x15, x17, x771000, x771001, x771002, x771003, x771004 => if x17 < (x771000.length : Int) then (if 0 ≤ x17 then (if x17 < (x7.length : Int) then (if 0 ≤ x14 then (if x14 < (x771001.length : Int) then (if (wrap64 ((rd x7 x17) + (wrap64 (((rd_T79 x771000 x17).f0) * (rd x771001 x14))))) > ((rd_T79 x771000 x17).f1) then (laws_FnWorn.j5 k x6 x7 x9 x10 x11 x13 x14 x15 x17 (wrap64 ((rd x7 x17) + (wrap64 (((rd_T79 x771000 x17).f0) * (rd x771001 x14))))) (!x13) x771000 x771001 x771002 x771003 x771004) else (laws_FnWorn.j5 k x6 x7 x9 x10 x11 x13 x14 x15 x17 (wrap64 ((rd x7 x17) + (wrap64 (((rd_T79 x771000 x17).f0) * (rd x771001 x14))))) false x771000 x771001 x771002 x771003 x771004)) else (none)) else (none)) else (none)) else (none)) else (laws_FnWorn.l1 k x6 x15 x9 x10 x11 x13 (wrap64 (x14 + 1)) x771000 x771001 x771002 x771003 x771004)
def laws_FnWorn.j5 : Nat → List (S94) → List Int → Int → Int → Bool → Bool → Int → List Int → Int → Int → Bool → List (S79) → List Int → List Int → Int → Int → Option (Bool)
 | 0, _, _, _, _, _, _, _, _, _, _, _, _, _, _, _, _ => none
 | k + 1, x6, x7, x9, x10, x11, x13, x14, x15, x17, x18, x134, x771000, x771001, x771002, x771003, x771004 => if x134 = true then (if x11 = true then (if x9 = x17 then (if x10 = x14 then (laws_FnWorn.j6 k x6 x7 x9 x10 x11 true x14 x15 x17 x18 x771000 x771001 x771002 x771003 x771004) else (some false)) else (some false)) else (some false)) else (laws_FnWorn.j6 k x6 x7 x9 x10 x11 x13 x14 x15 x17 x18 x771000 x771001 x771002 x771003 x771004)
def laws_FnWorn.j6 : Nat → List (S94) → List Int → Int → Int → Bool → Bool → Int → List Int → Int → Int → List (S79) → List Int → List Int → Int → Int → Option (Bool)
 | 0, _, _, _, _, _, _, _, _, _, _, _, _, _, _, _ => none
 | k + 1, x6, x7, x9, x10, x11, x13, x14, x15, x17, x18, x771000, x771001, x771002, x771003, x771004 => (laws_r8Changes.f k x6 x17 (wrap64 (x14 + 1))).bind fun t792 => (if t792 = true then (if 0 ≤ x17 then (if x17 < (x15.length : Int) then (if (rd x15 x17) = 0 then (laws_FnWorn.l2 k x6 x7 x9 x10 x11 x13 x14 x15 (wrap64 (x17 + 1)) x771000 x771001 x771002 x771003 x771004) else (some false)) else (none)) else (none)) else (if 0 ≤ x17 then (if x17 < (x15.length : Int) then (if (rd x15 x17) = x18 then (laws_FnWorn.l2 k x6 x7 x9 x10 x11 x13 x14 x15 (wrap64 (x17 + 1)) x771000 x771001 x771002 x771003 x771004) else (some false)) else (none)) else (none)))
end
def laws_FnWorn.f (k : Nat) (l0 : List Int) (l1 : List Int) : Option (Bool) := (laws_r8Long.f l0 l1).bind fun t758 => (if t758 = true then (some true) else ((spec_R8Head.f k l0).bind fun bt759 => ((spec_R8Plan.f k l1 bt759.1 bt759.2.1 bt759.2.2.1 bt759.2.2.2.1 bt759.2.2.2.2).bind fun t771 => ((impl_WornAt.f k bt759.1 bt759.2.1 bt759.2.2.1 bt759.2.2.2.1 bt759.2.2.2.2 t771 0).bind fun bt774 => ((impl_FirstFailure.f k bt759.1 bt759.2.1 bt759.2.2.1 bt759.2.2.2.1 bt759.2.2.2.2 t771).bind fun bt778 => (if bt774.2 = true then (if (bt774.1.length : Int) = (bt759.1.length : Int) then ((impl_IsPlan.f k bt759.1 bt759.2.1 bt759.2.2.1 bt759.2.2.2.1 bt759.2.2.2.2 t771).bind fun t781 => (if t781 = true then ((impl_IsEnough.f k bt759.1 bt759.2.1 bt759.2.2.1 bt759.2.2.2.1 bt759.2.2.2.2 t771).bind fun t782 => (laws_FnWorn.j0 k t771 bt774.1 bt778.1 bt778.2.1 bt778.2.2 (bt778.2.2 == t782) bt759.1 bt759.2.1 bt759.2.2.1 bt759.2.2.2.1 bt759.2.2.2.2)) else (laws_FnWorn.j0 k t771 bt774.1 bt778.1 bt778.2.1 bt778.2.2 true bt759.1 bt759.2.1 bt759.2.2.1 bt759.2.2.2.1 bt759.2.2.2.2))) else (laws_FnWorn.j0 k t771 bt774.1 bt778.1 bt778.2.1 bt778.2.2 true bt759.1 bt759.2.1 bt759.2.2.1 bt759.2.2.2.1 bt759.2.2.2.2)) else (laws_FnWorn.j0 k t771 bt774.1 bt778.1 bt778.2.1 bt778.2.2 true bt759.1 bt759.2.1 bt759.2.2.1 bt759.2.2.2.1 bt759.2.2.2.2)))))))
set_option maxHeartbeats 8000000 in
set_option maxRecDepth 100000 in
theorem laws_FnWorn.calls (k : Nat) (A0 : Option Addr) (c0 : Nat) (l0 : List Int) (A1 : Option Addr) (c1 : Nat) (l1 : List Int) (r : Bool) (w : World) (hr0 : Kd.C (Kd.int .u8) w A0 l0.length l0) (hc0 : l0.length ≤ c0) (hr1 : Kd.C (Kd.int .u8) w A1 l1.length l1) (hc1 : l1.length ≤ c1) (h : laws_FnWorn.f k l0 l1 = some r) :
  Calls Try.prog 8 #[.slice A0 l0.length c0, .slice A1 l1.length c1] w fun e w' => e = .returned (.bool r) ∧ Below w.heap.size w w' := by
 have hu64 := Try.underlying64
 have HR0 := Aside0.mk hr0
 have HC0 := Aside0.mk hc0
 clear hr0 hc0
 have HR1 := Aside0.mk hr1
 have HC1 := Aside0.mk hc1
 clear hr1 hc1
 have HB := Aside0.mk (Below.refl w.heap.size w)
 have H : ((laws_r8Long.f l0 l1).bind fun t758 => (if t758 = true then (some true) else ((spec_R8Head.f k l0).bind fun bt759 => ((spec_R8Plan.f k l1 bt759.1 bt759.2.1 bt759.2.2.1 bt759.2.2.2.1 bt759.2.2.2.2).bind fun t771 => ((impl_WornAt.f k bt759.1 bt759.2.1 bt759.2.2.1 bt759.2.2.2.1 bt759.2.2.2.2 t771 0).bind fun bt774 => ((impl_FirstFailure.f k bt759.1 bt759.2.1 bt759.2.2.1 bt759.2.2.2.1 bt759.2.2.2.2 t771).bind fun bt778 => (if bt774.2 = true then (if (bt774.1.length : Int) = (bt759.1.length : Int) then ((impl_IsPlan.f k bt759.1 bt759.2.1 bt759.2.2.1 bt759.2.2.2.1 bt759.2.2.2.2 t771).bind fun t781 => (if t781 = true then ((impl_IsEnough.f k bt759.1 bt759.2.1 bt759.2.2.1 bt759.2.2.2.1 bt759.2.2.2.2 t771).bind fun t782 => (laws_FnWorn.j0 k t771 bt774.1 bt778.1 bt778.2.1 bt778.2.2 (bt778.2.2 == t782) bt759.1 bt759.2.1 bt759.2.2.1 bt759.2.2.2.1 bt759.2.2.2.2)) else (laws_FnWorn.j0 k t771 bt774.1 bt778.1 bt778.2.1 bt778.2.2 true bt759.1 bt759.2.1 bt759.2.2.1 bt759.2.2.2.1 bt759.2.2.2.2))) else (laws_FnWorn.j0 k t771 bt774.1 bt778.1 bt778.2.1 bt778.2.2 true bt759.1 bt759.2.1 bt759.2.2.1 bt759.2.2.2.1 bt759.2.2.2.2)) else (laws_FnWorn.j0 k t771 bt774.1 bt778.1 bt778.2.1 bt778.2.2 true bt759.1 bt759.2.1 bt759.2.2.1 bt759.2.2.2.1 bt759.2.2.2.2)))))))) = some r := h
 clear h
 replace H := Option.bind_eq_some_iff.mp H
 obtain ⟨t758, A30, H⟩ := H
 replace H : (if t758 = true then (some true) else ((spec_R8Head.f k l0).bind fun bt759 => ((spec_R8Plan.f k l1 bt759.1 bt759.2.1 bt759.2.2.1 bt759.2.2.2.1 bt759.2.2.2.2).bind fun t771 => ((impl_WornAt.f k bt759.1 bt759.2.1 bt759.2.2.1 bt759.2.2.2.1 bt759.2.2.2.2 t771 0).bind fun bt774 => ((impl_FirstFailure.f k bt759.1 bt759.2.1 bt759.2.2.1 bt759.2.2.2.1 bt759.2.2.2.2 t771).bind fun bt778 => (if bt774.2 = true then (if (bt774.1.length : Int) = (bt759.1.length : Int) then ((impl_IsPlan.f k bt759.1 bt759.2.1 bt759.2.2.1 bt759.2.2.2.1 bt759.2.2.2.2 t771).bind fun t781 => (if t781 = true then ((impl_IsEnough.f k bt759.1 bt759.2.1 bt759.2.2.1 bt759.2.2.2.1 bt759.2.2.2.2 t771).bind fun t782 => (laws_FnWorn.j0 k t771 bt774.1 bt778.1 bt778.2.1 bt778.2.2 (bt778.2.2 == t782) bt759.1 bt759.2.1 bt759.2.2.1 bt759.2.2.2.1 bt759.2.2.2.2)) else (laws_FnWorn.j0 k t771 bt774.1 bt778.1 bt778.2.1 bt778.2.2 true bt759.1 bt759.2.1 bt759.2.2.1 bt759.2.2.2.1 bt759.2.2.2.2))) else (laws_FnWorn.j0 k t771 bt774.1 bt778.1 bt778.2.1 bt778.2.2 true bt759.1 bt759.2.1 bt759.2.2.1 bt759.2.2.2.1 bt759.2.2.2.2)) else (laws_FnWorn.j0 k t771 bt774.1 bt778.1 bt778.2.1 bt778.2.2 true bt759.1 bt759.2.1 bt759.2.2.1 bt759.2.2.2.1 bt759.2.2.2.2))))))) = some r := H
 have A3 := Aside0.mk A30
 clear A30
 by_cases c4 : t758 = true
 ·subst c4
  have H1 : (some true) = some r := by rw [if_pos rfl] at H; exact H
  clear H
  have H := H1
  clear H1
  obtain rfl := Option.some.inj H
  go_enter Try.func8, Try.ntmps8
  go_wp2_with (first | (go_at_call 45; (with_reducible refine (laws_r8Long.calls _ _ l0 _ _ l1 true _ ?side1 ?side2 ?side3 ?side4 A3.out).mono ?_); (case side1 => repeat (first | exact HR0.out | (with_reducible refine Kd.C_alloc ?_ _) | (with_reducible refine Kd.C_drewN ?_ _) | (with_reducible refine Kd.C_drew ?_))); (case side2 => exact HC0.out); (case side3 => repeat (first | exact HR1.out | (with_reducible refine Kd.C_alloc ?_ _) | (with_reducible refine Kd.C_drewN ?_ _) | (with_reducible refine Kd.C_drew ?_))); (case side4 => exact HC1.out); rintro e w' ⟨rfl, ⟨nd, rfl⟩⟩; (try first | exact ⟨rfl, _, World.drewN_drewN _ _ _⟩ | exact ⟨rfl, _, Eq.trans (World.drewN_drewN _ _ _) (congrArg (World.drewN _) (Nat.add_assoc _ _ _))⟩)))
  repeat (go_quiet (first | (go_at_call 45; (with_reducible refine (laws_r8Long.calls _ _ l0 _ _ l1 true _ ?side1 ?side2 ?side3 ?side4 A3.out).mono ?_); (case side1 => repeat (first | exact HR0.out | (with_reducible refine Kd.C_alloc ?_ _) | (with_reducible refine Kd.C_drewN ?_ _) | (with_reducible refine Kd.C_drew ?_))); (case side2 => exact HC0.out); (case side3 => repeat (first | exact HR1.out | (with_reducible refine Kd.C_alloc ?_ _) | (with_reducible refine Kd.C_drewN ?_ _) | (with_reducible refine Kd.C_drew ?_))); (case side4 => exact HC1.out); rintro e w' ⟨rfl, ⟨nd, rfl⟩⟩; (try first | exact ⟨rfl, _, World.drewN_drewN _ _ _⟩ | exact ⟨rfl, _, Eq.trans (World.drewN_drewN _ _ _) (congrArg (World.drewN _) (Nat.add_assoc _ _ _))⟩))); try go_wp2_with (first | (go_at_call 45; (with_reducible refine (laws_r8Long.calls _ _ l0 _ _ l1 true _ ?side1 ?side2 ?side3 ?side4 A3.out).mono ?_); (case side1 => repeat (first | exact HR0.out | (with_reducible refine Kd.C_alloc ?_ _) | (with_reducible refine Kd.C_drewN ?_ _) | (with_reducible refine Kd.C_drew ?_))); (case side2 => exact HC0.out); (case side3 => repeat (first | exact HR1.out | (with_reducible refine Kd.C_alloc ?_ _) | (with_reducible refine Kd.C_drewN ?_ _) | (with_reducible refine Kd.C_drew ?_))); (case side4 => exact HC1.out); rintro e w' ⟨rfl, ⟨nd, rfl⟩⟩; (try first | exact ⟨rfl, _, World.drewN_drewN _ _ _⟩ | exact ⟨rfl, _, Eq.trans (World.drewN_drewN _ _ _) (congrArg (World.drewN _) (Nat.add_assoc _ _ _))⟩))))
  go_ret
  exact ⟨by first | rfl | (simp [errW_none, errW_some] <;> rfl) | (simp [*, errW_none, errW_some] <;> rfl) | (simp [Int.tdiv_eq_ediv_of_nonneg, *]; done), by repeat (first | (with_reducible first | exact HB.out | apply below_alloc | apply pw_below_drewN | apply below_drew1) | exact HB.out)⟩
 ·replace c4 := Bool.eq_false_iff.mpr c4
  subst c4
  have H1 : ((spec_R8Head.f k l0).bind fun bt759 => ((spec_R8Plan.f k l1 bt759.1 bt759.2.1 bt759.2.2.1 bt759.2.2.2.1 bt759.2.2.2.2).bind fun t771 => ((impl_WornAt.f k bt759.1 bt759.2.1 bt759.2.2.1 bt759.2.2.2.1 bt759.2.2.2.2 t771 0).bind fun bt774 => ((impl_FirstFailure.f k bt759.1 bt759.2.1 bt759.2.2.1 bt759.2.2.2.1 bt759.2.2.2.2 t771).bind fun bt778 => (if bt774.2 = true then (if (bt774.1.length : Int) = (bt759.1.length : Int) then ((impl_IsPlan.f k bt759.1 bt759.2.1 bt759.2.2.1 bt759.2.2.2.1 bt759.2.2.2.2 t771).bind fun t781 => (if t781 = true then ((impl_IsEnough.f k bt759.1 bt759.2.1 bt759.2.2.1 bt759.2.2.2.1 bt759.2.2.2.2 t771).bind fun t782 => (laws_FnWorn.j0 k t771 bt774.1 bt778.1 bt778.2.1 bt778.2.2 (bt778.2.2 == t782) bt759.1 bt759.2.1 bt759.2.2.1 bt759.2.2.2.1 bt759.2.2.2.2)) else (laws_FnWorn.j0 k t771 bt774.1 bt778.1 bt778.2.1 bt778.2.2 true bt759.1 bt759.2.1 bt759.2.2.1 bt759.2.2.2.1 bt759.2.2.2.2))) else (laws_FnWorn.j0 k t771 bt774.1 bt778.1 bt778.2.1 bt778.2.2 true bt759.1 bt759.2.1 bt759.2.2.1 bt759.2.2.2.1 bt759.2.2.2.2)) else (laws_FnWorn.j0 k t771 bt774.1 bt778.1 bt778.2.1 bt778.2.2 true bt759.1 bt759.2.1 bt759.2.2.1 bt759.2.2.2.1 bt759.2.2.2.2)))))) = some r := by rw [if_neg (show ¬ (false = true) by decide)] at H; exact H
  clear H
  have H := H1
  clear H1
  replace H := Option.bind_eq_some_iff.mp H
  obtain ⟨⟨t759, t762, t765, t768, t769⟩, A50, H⟩ := H
  replace H : ((spec_R8Plan.f k l1 t759 t762 t765 t768 t769).bind fun t771 => ((impl_WornAt.f k t759 t762 t765 t768 t769 t771 0).bind fun bt774 => ((impl_FirstFailure.f k t759 t762 t765 t768 t769 t771).bind fun bt778 => (if bt774.2 = true then (if (bt774.1.length : Int) = (t759.length : Int) then ((impl_IsPlan.f k t759 t762 t765 t768 t769 t771).bind fun t781 => (if t781 = true then ((impl_IsEnough.f k t759 t762 t765 t768 t769 t771).bind fun t782 => (laws_FnWorn.j0 k t771 bt774.1 bt778.1 bt778.2.1 bt778.2.2 (bt778.2.2 == t782) t759 t762 t765 t768 t769)) else (laws_FnWorn.j0 k t771 bt774.1 bt778.1 bt778.2.1 bt778.2.2 true t759 t762 t765 t768 t769))) else (laws_FnWorn.j0 k t771 bt774.1 bt778.1 bt778.2.1 bt778.2.2 true t759 t762 t765 t768 t769)) else (laws_FnWorn.j0 k t771 bt774.1 bt778.1 bt778.2.1 bt778.2.2 true t759 t762 t765 t768 t769))))) = some r := H
  have A5 := Aside0.mk A50
  clear A50
  replace H := Option.bind_eq_some_iff.mp H
  obtain ⟨t771, A60, H⟩ := H
  replace H : ((impl_WornAt.f k t759 t762 t765 t768 t769 t771 0).bind fun bt774 => ((impl_FirstFailure.f k t759 t762 t765 t768 t769 t771).bind fun bt778 => (if bt774.2 = true then (if (bt774.1.length : Int) = (t759.length : Int) then ((impl_IsPlan.f k t759 t762 t765 t768 t769 t771).bind fun t781 => (if t781 = true then ((impl_IsEnough.f k t759 t762 t765 t768 t769 t771).bind fun t782 => (laws_FnWorn.j0 k t771 bt774.1 bt778.1 bt778.2.1 bt778.2.2 (bt778.2.2 == t782) t759 t762 t765 t768 t769)) else (laws_FnWorn.j0 k t771 bt774.1 bt778.1 bt778.2.1 bt778.2.2 true t759 t762 t765 t768 t769))) else (laws_FnWorn.j0 k t771 bt774.1 bt778.1 bt778.2.1 bt778.2.2 true t759 t762 t765 t768 t769)) else (laws_FnWorn.j0 k t771 bt774.1 bt778.1 bt778.2.1 bt778.2.2 true t759 t762 t765 t768 t769)))) = some r := H
  have A6 := Aside0.mk A60
  clear A60
  replace H := Option.bind_eq_some_iff.mp H
  obtain ⟨⟨t774, t777⟩, A70, H⟩ := H
  replace H : ((impl_FirstFailure.f k t759 t762 t765 t768 t769 t771).bind fun bt778 => (if t777 = true then (if (t774.length : Int) = (t759.length : Int) then ((impl_IsPlan.f k t759 t762 t765 t768 t769 t771).bind fun t781 => (if t781 = true then ((impl_IsEnough.f k t759 t762 t765 t768 t769 t771).bind fun t782 => (laws_FnWorn.j0 k t771 t774 bt778.1 bt778.2.1 bt778.2.2 (bt778.2.2 == t782) t759 t762 t765 t768 t769)) else (laws_FnWorn.j0 k t771 t774 bt778.1 bt778.2.1 bt778.2.2 true t759 t762 t765 t768 t769))) else (laws_FnWorn.j0 k t771 t774 bt778.1 bt778.2.1 bt778.2.2 true t759 t762 t765 t768 t769)) else (laws_FnWorn.j0 k t771 t774 bt778.1 bt778.2.1 bt778.2.2 true t759 t762 t765 t768 t769))) = some r := H
  have A7 := Aside0.mk A70
  clear A70
  replace H := Option.bind_eq_some_iff.mp H
  obtain ⟨⟨t778, t779, t780⟩, A80, H⟩ := H
  replace H : (if t777 = true then (if (t774.length : Int) = (t759.length : Int) then ((impl_IsPlan.f k t759 t762 t765 t768 t769 t771).bind fun t781 => (if t781 = true then ((impl_IsEnough.f k t759 t762 t765 t768 t769 t771).bind fun t782 => (laws_FnWorn.j0 k t771 t774 t778 t779 t780 (t780 == t782) t759 t762 t765 t768 t769)) else (laws_FnWorn.j0 k t771 t774 t778 t779 t780 true t759 t762 t765 t768 t769))) else (laws_FnWorn.j0 k t771 t774 t778 t779 t780 true t759 t762 t765 t768 t769)) else (laws_FnWorn.j0 k t771 t774 t778 t779 t780 true t759 t762 t765 t768 t769)) = some r := H
  have A8 := Aside0.mk A80
  clear A80
  have HC9 := Aside0.mk H
  clear H
  go_enter Try.func8, Try.ntmps8
  go_upto_region 7 with (first | (go_at_call 45; (with_reducible refine (laws_r8Long.calls _ _ l0 _ _ l1 false _ ?side1 ?side2 ?side3 ?side4 A3.out).mono ?_); (case side1 => repeat (first | exact HR0.out | (with_reducible refine Kd.C_alloc ?_ _) | (with_reducible refine Kd.C_drewN ?_ _) | (with_reducible refine Kd.C_drew ?_))); (case side2 => exact HC0.out); (case side3 => repeat (first | exact HR1.out | (with_reducible refine Kd.C_alloc ?_ _) | (with_reducible refine Kd.C_drewN ?_ _) | (with_reducible refine Kd.C_drew ?_))); (case side4 => exact HC1.out); rintro e w' ⟨rfl, ⟨nd, rfl⟩⟩; (try first | exact ⟨rfl, _, World.drewN_drewN _ _ _⟩ | exact ⟨rfl, _, Eq.trans (World.drewN_drewN _ _ _) (congrArg (World.drewN _) (Nat.add_assoc _ _ _))⟩)) | (go_at_call 46; (with_reducible refine (spec_R8Head.calls k _ _ l0 t759 t762 t765 t768 t769 _ ?side1 ?side2 A5.out).mono ?_); (case side1 => repeat (first | exact HR0.out | (with_reducible refine Kd.C_alloc ?_ _) | (with_reducible refine Kd.C_drewN ?_ _) | (with_reducible refine Kd.C_drew ?_))); (case side2 => exact HC0.out); rintro e w10 ⟨v760, v763, v766, rfl, ho0, ho1, ho2, hb⟩; have n0_ := Aside0.mk (Kd.R_lower ho0 (below_size (by repeat (first | (with_reducible first | exact HB.out | apply below_alloc | apply pw_below_drewN | apply below_drew1) | exact HB.out)))); have n1_ := Aside0.mk (Kd.R_lower ho1 (below_size (by repeat (first | (with_reducible first | exact HB.out | apply below_alloc | apply pw_below_drewN | apply below_drew1) | exact HB.out)))); have n2_ := Aside0.mk (Kd.R_lower ho2 (below_size (by repeat (first | (with_reducible first | exact HB.out | apply below_alloc | apply pw_below_drewN | apply below_drew1) | exact HB.out)))); have n3_ := Aside0.mk (below_step (by repeat (first | (with_reducible first | exact HB.out | apply below_alloc | apply pw_below_drewN | apply below_drew1) | exact HB.out)) hb); clear HB; have HO761 := n0_; have HO764 := n1_; have HO767 := n2_; have HB := n3_; clear n0_ n1_ n2_ n3_; (try clear hb); (try clear hb2); (try clear hk); (try clear hi); (try clear ho0); (try clear ho1); (try clear ho2)) | ((with_reducible refine gate_dst (N := 5) rfl ?_); (try (refine gate_guard (by rfl) ?_; dsimp only)); refine box_event ?hg (N := 5) ?hd (cs := #[.slice none 0 0, .slice none 0 0, .slice none 0 0, .int .i64 0, .int .i64 0]) (t := 64) ?hr ?_; (case hd => rfl); (case hg => rfl); (case hr => first | (go_simp; done) | (go_simp; rfl)); intro gb770 hg w11 hbox hb; have n0_ := Aside0.mk (Kd.R_below (by (with_reducible repeat (first | apply Kd.R_alloc | apply Kd.R_drewN | apply Kd.R_drew)); exact HO761.out) hb); have n1_ := Aside0.mk (Kd.R_below (by (with_reducible repeat (first | apply Kd.R_alloc | apply Kd.R_drewN | apply Kd.R_drew)); exact HO764.out) hb); have n2_ := Aside0.mk (Kd.R_below (by (with_reducible repeat (first | apply Kd.R_alloc | apply Kd.R_drewN | apply Kd.R_drew)); exact HO767.out) hb); have n3_ := Aside0.mk (below_step (by repeat (first | (with_reducible first | exact HB.out | apply below_alloc | apply pw_below_drewN | apply below_drew1) | exact HB.out)) hb); have n4_ := Aside0.mk (hbox); have n5_ := Aside0.mk ((by rw [hg]; exact (below_size (by repeat (first | (with_reducible first | exact HB.out | apply below_alloc | apply pw_below_drewN | apply below_drew1) | exact HB.out))) : w.heap.size ≤ gb770)); have n6_ := Aside0.mk ((by rw [hg]; exact (below_size (by repeat (first | (with_reducible first | exact HB.out | apply below_alloc | apply pw_below_drewN | apply below_drew1) | exact HB.out))) : w.heap.size ≤ gb770)); clear HO761; clear HO764; clear HO767; clear HB; have HO761 := n0_; have HO764 := n1_; have HO767 := n2_; have HB := n3_; have BK770 := n4_; have GW770 := n5_; have GE770 := n6_; clear n0_ n1_ n2_ n3_ n4_ n5_ n6_; clear hb hbox hg; obtain ⟨Ao12, co12, eo12⟩ := Kd.R_slice HO761.out; subst eo12; have hcz13_0 : w11.cell? ⟨gb770, 0, none⟩ = some (.slice none 0 0) := (blk_cell BK770.out 0).trans rfl; have hcz13_1 : w11.cell? ⟨gb770, 1, none⟩ = some (.slice none 0 0) := (blk_cell BK770.out 1).trans rfl; have hcz13_2 : w11.cell? ⟨gb770, 2, none⟩ = some (.slice none 0 0) := (blk_cell BK770.out 2).trans rfl; have hcz13_3 : w11.cell? ⟨gb770, 3, none⟩ = some (.int .i64 0) := (blk_cell BK770.out 3).trans rfl; have hcz13_4 : w11.cell? ⟨gb770, 4, none⟩ = some (.int .i64 0) := (blk_cell BK770.out 4).trans rfl; have hfz13_0 := blk_frozen BK770.out 0; have hfz13_1 := blk_frozen BK770.out 1; have hfz13_2 := blk_frozen BK770.out 2; have hfz13_3 := blk_frozen BK770.out 3; have hfz13_4 := blk_frozen BK770.out 4; obtain ⟨Ao14, co14, eo14⟩ := Kd.R_slice HO764.out; subst eo14; obtain ⟨Ao15, co15, eo15⟩ := Kd.R_slice HO767.out; subst eo15) | (go_at_call 47; (with_reducible refine (spec_R8Plan.calls k _ _ l1 _ _ t759 _ _ t762 _ _ t765 t768 t769 t771 _ ?side1 ?side2 ?side3 ?side4 ?side5 ?side6 ?side7 ?side8 A6.out).mono ?_); (case side1 => exact Kd.C_below HR1.out (by repeat (first | (with_reducible first | exact HB.out | apply below_alloc | apply pw_below_drewN | apply below_drew1 | refine below_set ?_ GE770.out) | exact HB.out))); (case side2 => exact HC1.out); (case side3 => refine (Kd.R_reads' (e := 79) (base := w.heap.size) (ok := fun k_ => True) (n := t759.length) (c := co12) ?_).2.2; exact (by (with_reducible repeat (first | apply Kd.R_alloc | apply Kd.R_drewN | apply Kd.R_drew)); exact (Kd.R_mono (Kd.R_far (p := ⟨gb770, 4, none⟩) (Kd.R_far (p := ⟨gb770, 3, none⟩) (Kd.R_far (p := ⟨gb770, 2, none⟩) (Kd.R_far (p := ⟨gb770, 1, none⟩) (Kd.R_far (p := ⟨gb770, 0, none⟩) (Kd.R_types HO761.out BK770.out (by decide)) (fun _ hk => hk.2) (.slice Ao12 t759.length co12)) (fun _ hk => hk.2) (.slice Ao14 t762.length co14)) (fun _ hk => hk.2) (.slice Ao15 t765.length co15)) (fun _ hk => hk.2) (.int .i64 t768)) (fun _ hk => hk.2) (.int .i64 t769)) (fun _ h_ => h_.1)))); (case side4 => exact (Kd.R_reads' HO761.out).2.1); (case side5 => refine (Kd.R_reads' (e := 2) (base := w.heap.size) (ok := fun k_ => some k_ ≠ (.slice Ao15 t765.length co15 : Value).ownBlock) (n := t762.length) (c := co14) ?_).2.2; exact (by (with_reducible repeat (first | apply Kd.R_alloc | apply Kd.R_drewN | apply Kd.R_drew)); exact (Kd.R_mono (Kd.R_far (p := ⟨gb770, 4, none⟩) (Kd.R_far (p := ⟨gb770, 3, none⟩) (Kd.R_far (p := ⟨gb770, 2, none⟩) (Kd.R_far (p := ⟨gb770, 1, none⟩) (Kd.R_far (p := ⟨gb770, 0, none⟩) (Kd.R_types HO764.out BK770.out (by decide)) (fun _ hk => hk.2) (.slice Ao12 t759.length co12)) (fun _ hk => hk.2) (.slice Ao14 t762.length co14)) (fun _ hk => hk.2) (.slice Ao15 t765.length co15)) (fun _ hk => hk.2) (.int .i64 t768)) (fun _ hk => hk.2) (.int .i64 t769)) (fun _ h_ => h_.1)))); (case side6 => exact (Kd.R_reads' HO764.out).2.1); (case side7 => refine (Kd.R_reads' (e := 2) (base := w.heap.size) (ok := fun k_ => some k_ ≠ (.slice Ao14 t762.length co14 : Value).ownBlock) (n := t765.length) (c := co15) ?_).2.2; exact (by (with_reducible repeat (first | apply Kd.R_alloc | apply Kd.R_drewN | apply Kd.R_drew)); exact (Kd.R_mono (Kd.R_far (p := ⟨gb770, 4, none⟩) (Kd.R_far (p := ⟨gb770, 3, none⟩) (Kd.R_far (p := ⟨gb770, 2, none⟩) (Kd.R_far (p := ⟨gb770, 1, none⟩) (Kd.R_far (p := ⟨gb770, 0, none⟩) (Kd.R_types HO767.out BK770.out (by decide)) (fun _ hk => hk.2) (.slice Ao12 t759.length co12)) (fun _ hk => hk.2) (.slice Ao14 t762.length co14)) (fun _ hk => hk.2) (.slice Ao15 t765.length co15)) (fun _ hk => hk.2) (.int .i64 t768)) (fun _ hk => hk.2) (.int .i64 t769)) (fun _ h_ => h_.1)))); (case side8 => exact (Kd.R_reads' HO767.out).2.1); rintro e w16 ⟨v772, rfl, ho0, hb⟩; have n0_ := Aside0.mk (Kd.R_below (by (with_reducible repeat (first | apply Kd.R_alloc | apply Kd.R_drewN | apply Kd.R_drew)); exact (Kd.R_mono (Kd.R_far (p := ⟨gb770, 4, none⟩) (Kd.R_far (p := ⟨gb770, 3, none⟩) (Kd.R_far (p := ⟨gb770, 2, none⟩) (Kd.R_far (p := ⟨gb770, 1, none⟩) (Kd.R_far (p := ⟨gb770, 0, none⟩) (Kd.R_types HO761.out BK770.out (by decide)) (fun _ hk => hk.2) (.slice Ao12 t759.length co12)) (fun _ hk => hk.2) (.slice Ao14 t762.length co14)) (fun _ hk => hk.2) (.slice Ao15 t765.length co15)) (fun _ hk => hk.2) (.int .i64 t768)) (fun _ hk => hk.2) (.int .i64 t769)) (fun _ h_ => h_.1))) hb); have n1_ := Aside0.mk (Kd.R_below (by (with_reducible repeat (first | apply Kd.R_alloc | apply Kd.R_drewN | apply Kd.R_drew)); exact (Kd.R_mono (Kd.R_far (p := ⟨gb770, 4, none⟩) (Kd.R_far (p := ⟨gb770, 3, none⟩) (Kd.R_far (p := ⟨gb770, 2, none⟩) (Kd.R_far (p := ⟨gb770, 1, none⟩) (Kd.R_far (p := ⟨gb770, 0, none⟩) (Kd.R_types HO764.out BK770.out (by decide)) (fun _ hk => hk.2) (.slice Ao12 t759.length co12)) (fun _ hk => hk.2) (.slice Ao14 t762.length co14)) (fun _ hk => hk.2) (.slice Ao15 t765.length co15)) (fun _ hk => hk.2) (.int .i64 t768)) (fun _ hk => hk.2) (.int .i64 t769)) (fun _ h_ => h_.1))) hb); have n2_ := Aside0.mk (Kd.R_below (by (with_reducible repeat (first | apply Kd.R_alloc | apply Kd.R_drewN | apply Kd.R_drew)); exact (Kd.R_mono (Kd.R_far (p := ⟨gb770, 4, none⟩) (Kd.R_far (p := ⟨gb770, 3, none⟩) (Kd.R_far (p := ⟨gb770, 2, none⟩) (Kd.R_far (p := ⟨gb770, 1, none⟩) (Kd.R_far (p := ⟨gb770, 0, none⟩) (Kd.R_types HO767.out BK770.out (by decide)) (fun _ hk => hk.2) (.slice Ao12 t759.length co12)) (fun _ hk => hk.2) (.slice Ao14 t762.length co14)) (fun _ hk => hk.2) (.slice Ao15 t765.length co15)) (fun _ hk => hk.2) (.int .i64 t768)) (fun _ hk => hk.2) (.int .i64 t769)) (fun _ h_ => h_.1))) hb); have n3_ := Aside0.mk (Kd.S_lower (Kd.S_new' (Kd.S_new' ho0 (Kd.R_lt (by (with_reducible repeat (first | apply Kd.R_alloc | apply Kd.R_drewN | apply Kd.R_drew)); exact (Kd.R_mono (Kd.R_far (p := ⟨gb770, 4, none⟩) (Kd.R_far (p := ⟨gb770, 3, none⟩) (Kd.R_far (p := ⟨gb770, 2, none⟩) (Kd.R_far (p := ⟨gb770, 1, none⟩) (Kd.R_far (p := ⟨gb770, 0, none⟩) (Kd.R_types HO764.out BK770.out (by decide)) (fun _ hk => hk.2) (.slice Ao12 t759.length co12)) (fun _ hk => hk.2) (.slice Ao14 t762.length co14)) (fun _ hk => hk.2) (.slice Ao15 t765.length co15)) (fun _ hk => hk.2) (.int .i64 t768)) (fun _ hk => hk.2) (.int .i64 t769)) (fun _ h_ => h_.1))))) (Kd.R_lt (by (with_reducible repeat (first | apply Kd.R_alloc | apply Kd.R_drewN | apply Kd.R_drew)); exact (Kd.R_mono (Kd.R_far (p := ⟨gb770, 4, none⟩) (Kd.R_far (p := ⟨gb770, 3, none⟩) (Kd.R_far (p := ⟨gb770, 2, none⟩) (Kd.R_far (p := ⟨gb770, 1, none⟩) (Kd.R_far (p := ⟨gb770, 0, none⟩) (Kd.R_types HO767.out BK770.out (by decide)) (fun _ hk => hk.2) (.slice Ao12 t759.length co12)) (fun _ hk => hk.2) (.slice Ao14 t762.length co14)) (fun _ hk => hk.2) (.slice Ao15 t765.length co15)) (fun _ hk => hk.2) (.int .i64 t768)) (fun _ hk => hk.2) (.int .i64 t769)) (fun _ h_ => h_.1))))) (below_size (by repeat (first | (with_reducible first | exact HB.out | apply below_alloc | apply pw_below_drewN | apply below_drew1 | refine below_set ?_ GE770.out) | exact HB.out)))); have n4_ := Aside0.mk (blk_below (g := gb770) (o := .cells #[.slice Ao12 t759.length co12, .slice Ao14 t762.length co14, .slice Ao15 t765.length co15, .int .i64 t768, .int .i64 t769] 64 (0, 0)) (by (with_reducible repeat (first | refine blk_drewN ?_ _ | refine blk_drew ?_ | refine blk_alloc ?_ _)); refine blk_put (cs := #[.slice Ao12 t759.length co12, .slice Ao14 t762.length co14, .slice Ao15 t765.length co15, .int .i64 t768, .int .i64 0]) ?_ 4 _ rfl; (with_reducible repeat (first | refine blk_drewN ?_ _ | refine blk_drew ?_ | refine blk_alloc ?_ _)); refine blk_put (cs := #[.slice Ao12 t759.length co12, .slice Ao14 t762.length co14, .slice Ao15 t765.length co15, .int .i64 0, .int .i64 0]) ?_ 3 _ rfl; (with_reducible repeat (first | refine blk_drewN ?_ _ | refine blk_drew ?_ | refine blk_alloc ?_ _)); refine blk_put (cs := #[.slice Ao12 t759.length co12, .slice Ao14 t762.length co14, .slice none 0 0, .int .i64 0, .int .i64 0]) ?_ 2 _ rfl; (with_reducible repeat (first | refine blk_drewN ?_ _ | refine blk_drew ?_ | refine blk_alloc ?_ _)); refine blk_put (cs := #[.slice Ao12 t759.length co12, .slice none 0 0, .slice none 0 0, .int .i64 0, .int .i64 0]) ?_ 1 _ rfl; (with_reducible repeat (first | refine blk_drewN ?_ _ | refine blk_drew ?_ | refine blk_alloc ?_ _)); refine blk_put (cs := #[.slice none 0 0, .slice none 0 0, .slice none 0 0, .int .i64 0, .int .i64 0]) ?_ 0 _ rfl; (with_reducible repeat (first | refine blk_drewN ?_ _ | refine blk_drew ?_ | refine blk_alloc ?_ _)); exact BK770.out) hb); have n5_ := Aside0.mk (below_step (by repeat (first | (with_reducible first | exact HB.out | apply below_alloc | apply pw_below_drewN | apply below_drew1 | refine below_set ?_ GE770.out) | exact HB.out)) hb); clear HO761; clear HO764; clear HO767; clear BK770; clear HB; have HO761 := n0_; have HO764 := n1_; have HO767 := n2_; have HO773 := n3_; have BK770 := n4_; have HB := n5_; clear n0_ n1_ n2_ n3_ n4_ n5_; (try clear hb); (try clear hb2); (try clear hk); (try clear hi); (try clear ho0); have hcz17_0 : w16.cell? ⟨gb770, 0, none⟩ = some (.slice Ao12 t759.length co12) := (blk_cell BK770.out 0).trans rfl; have hcz17_1 : w16.cell? ⟨gb770, 1, none⟩ = some (.slice Ao14 t762.length co14) := (blk_cell BK770.out 1).trans rfl; have hcz17_2 : w16.cell? ⟨gb770, 2, none⟩ = some (.slice Ao15 t765.length co15) := (blk_cell BK770.out 2).trans rfl; have hcz17_3 : w16.cell? ⟨gb770, 3, none⟩ = some (.int .i64 t768) := (blk_cell BK770.out 3).trans rfl; have hcz17_4 : w16.cell? ⟨gb770, 4, none⟩ = some (.int .i64 t769) := (blk_cell BK770.out 4).trans rfl; have hfz17_0 := blk_frozen BK770.out 0; have hfz17_1 := blk_frozen BK770.out 1; have hfz17_2 := blk_frozen BK770.out 2; have hfz17_3 := blk_frozen BK770.out 3; have hfz17_4 := blk_frozen BK770.out 4; obtain ⟨Ao18, co18, eo18⟩ := Kd.S_slice HO773.out; subst eo18) | (go_at_call 48; (with_reducible refine (impl_WornAt.calls k _ _ t759 _ _ t762 _ _ t765 t768 t769 _ _ t771 0 t774 t777 _ ?side1 ?side2 ?side3 ?side4 ?side5 ?side6 ?side7 ?side8 A7.out).mono ?_); (case side1 => repeat (first | exact (Kd.R_reads' HO761.out).2.2 | (with_reducible refine Kd.C_alloc ?_ _) | (with_reducible refine Kd.C_drewN ?_ _) | (with_reducible refine Kd.C_drew ?_))); (case side2 => exact (Kd.R_reads' HO761.out).2.1); (case side3 => repeat (first | exact (Kd.R_reads' HO764.out).2.2 | (with_reducible refine Kd.C_alloc ?_ _) | (with_reducible refine Kd.C_drewN ?_ _) | (with_reducible refine Kd.C_drew ?_))); (case side4 => exact (Kd.R_reads' HO764.out).2.1); (case side5 => repeat (first | exact (Kd.R_reads' HO767.out).2.2 | (with_reducible refine Kd.C_alloc ?_ _) | (with_reducible refine Kd.C_drewN ?_ _) | (with_reducible refine Kd.C_drew ?_))); (case side6 => exact (Kd.R_reads' HO767.out).2.1); (case side7 => repeat (first | exact (Kd.S_reads' HO773.out).2.2 | (with_reducible refine Kd.C_alloc ?_ _) | (with_reducible refine Kd.C_drewN ?_ _) | (with_reducible refine Kd.C_drew ?_))); (case side8 => exact (Kd.S_reads' HO773.out).2.1); rintro e w19 ⟨v775, rfl, ho0, hb⟩; have n0_ := Aside0.mk (Kd.R_below (by (with_reducible repeat (first | apply Kd.R_alloc | apply Kd.R_drewN | apply Kd.R_drew)); exact HO761.out) hb); have n1_ := Aside0.mk (Kd.R_elder' (by (with_reducible repeat (first | apply Kd.R_alloc | apply Kd.R_drewN | apply Kd.R_drew)); exact HO764.out) (Kd.R_base ho0) hb); have n2_ := Aside0.mk (Kd.R_elder' (by (with_reducible repeat (first | apply Kd.R_alloc | apply Kd.R_drewN | apply Kd.R_drew)); exact HO767.out) (Kd.R_base ho0) hb); have n3_ := Aside0.mk (Kd.S_elder' (by (with_reducible repeat (first | apply Kd.S_alloc | apply Kd.S_drewN | apply Kd.S_drew)); exact HO773.out) (Kd.R_base ho0) hb); have n4_ := Aside0.mk (Kd.R_lower (Kd.R_new' (Kd.R_new' ho0 (Kd.R_lt (by (with_reducible repeat (first | apply Kd.R_alloc | apply Kd.R_drewN | apply Kd.R_drew)); exact HO764.out))) (Kd.R_lt (by (with_reducible repeat (first | apply Kd.R_alloc | apply Kd.R_drewN | apply Kd.R_drew)); exact HO767.out))) (below_size (by repeat (first | (with_reducible first | exact HB.out | apply below_alloc | apply pw_below_drewN | apply below_drew1 | refine below_set ?_ GE770.out) | exact HB.out)))); have n5_ := Aside0.mk (blk_below (g := gb770) (o := .cells #[.slice Ao12 t759.length co12, .slice Ao14 t762.length co14, .slice Ao15 t765.length co15, .int .i64 t768, .int .i64 t769] 64 (0, 0)) (by (with_reducible repeat (first | refine blk_drewN ?_ _ | refine blk_drew ?_ | refine blk_alloc ?_ _)); exact BK770.out) hb); have n6_ := Aside0.mk (below_step (by repeat (first | (with_reducible first | exact HB.out | apply below_alloc | apply pw_below_drewN | apply below_drew1 | refine below_set ?_ GE770.out) | exact HB.out)) hb); clear HO761; clear HO764; clear HO767; clear HO773; clear BK770; clear HB; have HO761 := n0_; have HO764 := n1_; have HO767 := n2_; have HO773 := n3_; have HO776 := n4_; have BK770 := n5_; have HB := n6_; clear n0_ n1_ n2_ n3_ n4_ n5_ n6_; (try clear hb); (try clear hb2); (try clear hk); (try clear hi); (try clear ho0); have hcz20_0 : w19.cell? ⟨gb770, 0, none⟩ = some (.slice Ao12 t759.length co12) := (blk_cell BK770.out 0).trans rfl; have hcz20_1 : w19.cell? ⟨gb770, 1, none⟩ = some (.slice Ao14 t762.length co14) := (blk_cell BK770.out 1).trans rfl; have hcz20_2 : w19.cell? ⟨gb770, 2, none⟩ = some (.slice Ao15 t765.length co15) := (blk_cell BK770.out 2).trans rfl; have hcz20_3 : w19.cell? ⟨gb770, 3, none⟩ = some (.int .i64 t768) := (blk_cell BK770.out 3).trans rfl; have hcz20_4 : w19.cell? ⟨gb770, 4, none⟩ = some (.int .i64 t769) := (blk_cell BK770.out 4).trans rfl; have hfz20_0 := blk_frozen BK770.out 0; have hfz20_1 := blk_frozen BK770.out 1; have hfz20_2 := blk_frozen BK770.out 2; have hfz20_3 := blk_frozen BK770.out 3; have hfz20_4 := blk_frozen BK770.out 4) | (go_at_call 49; (with_reducible refine (impl_FirstFailure.calls k _ _ t759 _ _ t762 _ _ t765 t768 t769 _ _ t771 t778 t779 t780 _ ?side1 ?side2 ?side3 ?side4 ?side5 ?side6 ?side7 ?side8 A8.out).mono ?_); (case side1 => repeat (first | exact (Kd.R_reads' HO761.out).2.2 | (with_reducible refine Kd.C_alloc ?_ _) | (with_reducible refine Kd.C_drewN ?_ _) | (with_reducible refine Kd.C_drew ?_))); (case side2 => exact (Kd.R_reads' HO761.out).2.1); (case side3 => repeat (first | exact (Kd.R_reads' HO764.out).2.2 | (with_reducible refine Kd.C_alloc ?_ _) | (with_reducible refine Kd.C_drewN ?_ _) | (with_reducible refine Kd.C_drew ?_))); (case side4 => exact (Kd.R_reads' HO764.out).2.1); (case side5 => repeat (first | exact (Kd.R_reads' HO767.out).2.2 | (with_reducible refine Kd.C_alloc ?_ _) | (with_reducible refine Kd.C_drewN ?_ _) | (with_reducible refine Kd.C_drew ?_))); (case side6 => exact (Kd.R_reads' HO767.out).2.1); (case side7 => repeat (first | exact (Kd.S_reads' HO773.out).2.2 | (with_reducible refine Kd.C_alloc ?_ _) | (with_reducible refine Kd.C_drewN ?_ _) | (with_reducible refine Kd.C_drew ?_))); (case side8 => exact (Kd.S_reads' HO773.out).2.1); rintro e w21 ⟨rfl, hb⟩; have n0_ := Aside0.mk (Kd.R_below (by (with_reducible repeat (first | apply Kd.R_alloc | apply Kd.R_drewN | apply Kd.R_drew)); exact HO761.out) hb); have n1_ := Aside0.mk (Kd.R_below (by (with_reducible repeat (first | apply Kd.R_alloc | apply Kd.R_drewN | apply Kd.R_drew)); exact HO764.out) hb); have n2_ := Aside0.mk (Kd.R_below (by (with_reducible repeat (first | apply Kd.R_alloc | apply Kd.R_drewN | apply Kd.R_drew)); exact HO767.out) hb); have n3_ := Aside0.mk (Kd.S_below (by (with_reducible repeat (first | apply Kd.S_alloc | apply Kd.S_drewN | apply Kd.S_drew)); exact HO773.out) hb); have n4_ := Aside0.mk (Kd.R_below (by (with_reducible repeat (first | apply Kd.R_alloc | apply Kd.R_drewN | apply Kd.R_drew)); exact HO776.out) hb); have n5_ := Aside0.mk (blk_below (g := gb770) (o := .cells #[.slice Ao12 t759.length co12, .slice Ao14 t762.length co14, .slice Ao15 t765.length co15, .int .i64 t768, .int .i64 t769] 64 (0, 0)) (by (with_reducible repeat (first | refine blk_drewN ?_ _ | refine blk_drew ?_ | refine blk_alloc ?_ _)); exact BK770.out) hb); have n6_ := Aside0.mk (below_step (by repeat (first | (with_reducible first | exact HB.out | apply below_alloc | apply pw_below_drewN | apply below_drew1 | refine below_set ?_ GE770.out) | exact HB.out)) hb); clear HO761; clear HO764; clear HO767; clear HO773; clear HO776; clear BK770; clear HB; have HO761 := n0_; have HO764 := n1_; have HO767 := n2_; have HO773 := n3_; have HO776 := n4_; have BK770 := n5_; have HB := n6_; clear n0_ n1_ n2_ n3_ n4_ n5_ n6_; (try clear hb); (try clear hb2); (try clear hk); (try clear hi)))
  repeat (go_quiet (first | (go_at_call 45; (with_reducible refine (laws_r8Long.calls _ _ l0 _ _ l1 false _ ?side1 ?side2 ?side3 ?side4 A3.out).mono ?_); (case side1 => repeat (first | exact HR0.out | (with_reducible refine Kd.C_alloc ?_ _) | (with_reducible refine Kd.C_drewN ?_ _) | (with_reducible refine Kd.C_drew ?_))); (case side2 => exact HC0.out); (case side3 => repeat (first | exact HR1.out | (with_reducible refine Kd.C_alloc ?_ _) | (with_reducible refine Kd.C_drewN ?_ _) | (with_reducible refine Kd.C_drew ?_))); (case side4 => exact HC1.out); rintro e w' ⟨rfl, ⟨nd, rfl⟩⟩; (try first | exact ⟨rfl, _, World.drewN_drewN _ _ _⟩ | exact ⟨rfl, _, Eq.trans (World.drewN_drewN _ _ _) (congrArg (World.drewN _) (Nat.add_assoc _ _ _))⟩)) | (go_at_call 46; (with_reducible refine (spec_R8Head.calls k _ _ l0 t759 t762 t765 t768 t769 _ ?side1 ?side2 A5.out).mono ?_); (case side1 => repeat (first | exact HR0.out | (with_reducible refine Kd.C_alloc ?_ _) | (with_reducible refine Kd.C_drewN ?_ _) | (with_reducible refine Kd.C_drew ?_))); (case side2 => exact HC0.out); rintro e w10 ⟨v760, v763, v766, rfl, ho0, ho1, ho2, hb⟩; have n0_ := Aside0.mk (Kd.R_lower ho0 (below_size (by repeat (first | (with_reducible first | exact HB.out | apply below_alloc | apply pw_below_drewN | apply below_drew1) | exact HB.out)))); have n1_ := Aside0.mk (Kd.R_lower ho1 (below_size (by repeat (first | (with_reducible first | exact HB.out | apply below_alloc | apply pw_below_drewN | apply below_drew1) | exact HB.out)))); have n2_ := Aside0.mk (Kd.R_lower ho2 (below_size (by repeat (first | (with_reducible first | exact HB.out | apply below_alloc | apply pw_below_drewN | apply below_drew1) | exact HB.out)))); have n3_ := Aside0.mk (below_step (by repeat (first | (with_reducible first | exact HB.out | apply below_alloc | apply pw_below_drewN | apply below_drew1) | exact HB.out)) hb); clear HB; have HO761 := n0_; have HO764 := n1_; have HO767 := n2_; have HB := n3_; clear n0_ n1_ n2_ n3_; (try clear hb); (try clear hb2); (try clear hk); (try clear hi); (try clear ho0); (try clear ho1); (try clear ho2)) | ((with_reducible refine gate_dst (N := 5) rfl ?_); (try (refine gate_guard (by rfl) ?_; dsimp only)); refine box_event ?hg (N := 5) ?hd (cs := #[.slice none 0 0, .slice none 0 0, .slice none 0 0, .int .i64 0, .int .i64 0]) (t := 64) ?hr ?_; (case hd => rfl); (case hg => rfl); (case hr => first | (go_simp; done) | (go_simp; rfl)); intro gb770 hg w11 hbox hb; have n0_ := Aside0.mk (Kd.R_below (by (with_reducible repeat (first | apply Kd.R_alloc | apply Kd.R_drewN | apply Kd.R_drew)); exact HO761.out) hb); have n1_ := Aside0.mk (Kd.R_below (by (with_reducible repeat (first | apply Kd.R_alloc | apply Kd.R_drewN | apply Kd.R_drew)); exact HO764.out) hb); have n2_ := Aside0.mk (Kd.R_below (by (with_reducible repeat (first | apply Kd.R_alloc | apply Kd.R_drewN | apply Kd.R_drew)); exact HO767.out) hb); have n3_ := Aside0.mk (below_step (by repeat (first | (with_reducible first | exact HB.out | apply below_alloc | apply pw_below_drewN | apply below_drew1) | exact HB.out)) hb); have n4_ := Aside0.mk (hbox); have n5_ := Aside0.mk ((by rw [hg]; exact (below_size (by repeat (first | (with_reducible first | exact HB.out | apply below_alloc | apply pw_below_drewN | apply below_drew1) | exact HB.out))) : w.heap.size ≤ gb770)); have n6_ := Aside0.mk ((by rw [hg]; exact (below_size (by repeat (first | (with_reducible first | exact HB.out | apply below_alloc | apply pw_below_drewN | apply below_drew1) | exact HB.out))) : w.heap.size ≤ gb770)); clear HO761; clear HO764; clear HO767; clear HB; have HO761 := n0_; have HO764 := n1_; have HO767 := n2_; have HB := n3_; have BK770 := n4_; have GW770 := n5_; have GE770 := n6_; clear n0_ n1_ n2_ n3_ n4_ n5_ n6_; clear hb hbox hg; obtain ⟨Ao12, co12, eo12⟩ := Kd.R_slice HO761.out; subst eo12; have hcz13_0 : w11.cell? ⟨gb770, 0, none⟩ = some (.slice none 0 0) := (blk_cell BK770.out 0).trans rfl; have hcz13_1 : w11.cell? ⟨gb770, 1, none⟩ = some (.slice none 0 0) := (blk_cell BK770.out 1).trans rfl; have hcz13_2 : w11.cell? ⟨gb770, 2, none⟩ = some (.slice none 0 0) := (blk_cell BK770.out 2).trans rfl; have hcz13_3 : w11.cell? ⟨gb770, 3, none⟩ = some (.int .i64 0) := (blk_cell BK770.out 3).trans rfl; have hcz13_4 : w11.cell? ⟨gb770, 4, none⟩ = some (.int .i64 0) := (blk_cell BK770.out 4).trans rfl; have hfz13_0 := blk_frozen BK770.out 0; have hfz13_1 := blk_frozen BK770.out 1; have hfz13_2 := blk_frozen BK770.out 2; have hfz13_3 := blk_frozen BK770.out 3; have hfz13_4 := blk_frozen BK770.out 4; obtain ⟨Ao14, co14, eo14⟩ := Kd.R_slice HO764.out; subst eo14; obtain ⟨Ao15, co15, eo15⟩ := Kd.R_slice HO767.out; subst eo15) | (go_at_call 47; (with_reducible refine (spec_R8Plan.calls k _ _ l1 _ _ t759 _ _ t762 _ _ t765 t768 t769 t771 _ ?side1 ?side2 ?side3 ?side4 ?side5 ?side6 ?side7 ?side8 A6.out).mono ?_); (case side1 => exact Kd.C_below HR1.out (by repeat (first | (with_reducible first | exact HB.out | apply below_alloc | apply pw_below_drewN | apply below_drew1 | refine below_set ?_ GE770.out) | exact HB.out))); (case side2 => exact HC1.out); (case side3 => refine (Kd.R_reads' (e := 79) (base := w.heap.size) (ok := fun k_ => True) (n := t759.length) (c := co12) ?_).2.2; exact (by (with_reducible repeat (first | apply Kd.R_alloc | apply Kd.R_drewN | apply Kd.R_drew)); exact (Kd.R_mono (Kd.R_far (p := ⟨gb770, 4, none⟩) (Kd.R_far (p := ⟨gb770, 3, none⟩) (Kd.R_far (p := ⟨gb770, 2, none⟩) (Kd.R_far (p := ⟨gb770, 1, none⟩) (Kd.R_far (p := ⟨gb770, 0, none⟩) (Kd.R_types HO761.out BK770.out (by decide)) (fun _ hk => hk.2) (.slice Ao12 t759.length co12)) (fun _ hk => hk.2) (.slice Ao14 t762.length co14)) (fun _ hk => hk.2) (.slice Ao15 t765.length co15)) (fun _ hk => hk.2) (.int .i64 t768)) (fun _ hk => hk.2) (.int .i64 t769)) (fun _ h_ => h_.1)))); (case side4 => exact (Kd.R_reads' HO761.out).2.1); (case side5 => refine (Kd.R_reads' (e := 2) (base := w.heap.size) (ok := fun k_ => some k_ ≠ (.slice Ao15 t765.length co15 : Value).ownBlock) (n := t762.length) (c := co14) ?_).2.2; exact (by (with_reducible repeat (first | apply Kd.R_alloc | apply Kd.R_drewN | apply Kd.R_drew)); exact (Kd.R_mono (Kd.R_far (p := ⟨gb770, 4, none⟩) (Kd.R_far (p := ⟨gb770, 3, none⟩) (Kd.R_far (p := ⟨gb770, 2, none⟩) (Kd.R_far (p := ⟨gb770, 1, none⟩) (Kd.R_far (p := ⟨gb770, 0, none⟩) (Kd.R_types HO764.out BK770.out (by decide)) (fun _ hk => hk.2) (.slice Ao12 t759.length co12)) (fun _ hk => hk.2) (.slice Ao14 t762.length co14)) (fun _ hk => hk.2) (.slice Ao15 t765.length co15)) (fun _ hk => hk.2) (.int .i64 t768)) (fun _ hk => hk.2) (.int .i64 t769)) (fun _ h_ => h_.1)))); (case side6 => exact (Kd.R_reads' HO764.out).2.1); (case side7 => refine (Kd.R_reads' (e := 2) (base := w.heap.size) (ok := fun k_ => some k_ ≠ (.slice Ao14 t762.length co14 : Value).ownBlock) (n := t765.length) (c := co15) ?_).2.2; exact (by (with_reducible repeat (first | apply Kd.R_alloc | apply Kd.R_drewN | apply Kd.R_drew)); exact (Kd.R_mono (Kd.R_far (p := ⟨gb770, 4, none⟩) (Kd.R_far (p := ⟨gb770, 3, none⟩) (Kd.R_far (p := ⟨gb770, 2, none⟩) (Kd.R_far (p := ⟨gb770, 1, none⟩) (Kd.R_far (p := ⟨gb770, 0, none⟩) (Kd.R_types HO767.out BK770.out (by decide)) (fun _ hk => hk.2) (.slice Ao12 t759.length co12)) (fun _ hk => hk.2) (.slice Ao14 t762.length co14)) (fun _ hk => hk.2) (.slice Ao15 t765.length co15)) (fun _ hk => hk.2) (.int .i64 t768)) (fun _ hk => hk.2) (.int .i64 t769)) (fun _ h_ => h_.1)))); (case side8 => exact (Kd.R_reads' HO767.out).2.1); rintro e w16 ⟨v772, rfl, ho0, hb⟩; have n0_ := Aside0.mk (Kd.R_below (by (with_reducible repeat (first | apply Kd.R_alloc | apply Kd.R_drewN | apply Kd.R_drew)); exact (Kd.R_mono (Kd.R_far (p := ⟨gb770, 4, none⟩) (Kd.R_far (p := ⟨gb770, 3, none⟩) (Kd.R_far (p := ⟨gb770, 2, none⟩) (Kd.R_far (p := ⟨gb770, 1, none⟩) (Kd.R_far (p := ⟨gb770, 0, none⟩) (Kd.R_types HO761.out BK770.out (by decide)) (fun _ hk => hk.2) (.slice Ao12 t759.length co12)) (fun _ hk => hk.2) (.slice Ao14 t762.length co14)) (fun _ hk => hk.2) (.slice Ao15 t765.length co15)) (fun _ hk => hk.2) (.int .i64 t768)) (fun _ hk => hk.2) (.int .i64 t769)) (fun _ h_ => h_.1))) hb); have n1_ := Aside0.mk (Kd.R_below (by (with_reducible repeat (first | apply Kd.R_alloc | apply Kd.R_drewN | apply Kd.R_drew)); exact (Kd.R_mono (Kd.R_far (p := ⟨gb770, 4, none⟩) (Kd.R_far (p := ⟨gb770, 3, none⟩) (Kd.R_far (p := ⟨gb770, 2, none⟩) (Kd.R_far (p := ⟨gb770, 1, none⟩) (Kd.R_far (p := ⟨gb770, 0, none⟩) (Kd.R_types HO764.out BK770.out (by decide)) (fun _ hk => hk.2) (.slice Ao12 t759.length co12)) (fun _ hk => hk.2) (.slice Ao14 t762.length co14)) (fun _ hk => hk.2) (.slice Ao15 t765.length co15)) (fun _ hk => hk.2) (.int .i64 t768)) (fun _ hk => hk.2) (.int .i64 t769)) (fun _ h_ => h_.1))) hb); have n2_ := Aside0.mk (Kd.R_below (by (with_reducible repeat (first | apply Kd.R_alloc | apply Kd.R_drewN | apply Kd.R_drew)); exact (Kd.R_mono (Kd.R_far (p := ⟨gb770, 4, none⟩) (Kd.R_far (p := ⟨gb770, 3, none⟩) (Kd.R_far (p := ⟨gb770, 2, none⟩) (Kd.R_far (p := ⟨gb770, 1, none⟩) (Kd.R_far (p := ⟨gb770, 0, none⟩) (Kd.R_types HO767.out BK770.out (by decide)) (fun _ hk => hk.2) (.slice Ao12 t759.length co12)) (fun _ hk => hk.2) (.slice Ao14 t762.length co14)) (fun _ hk => hk.2) (.slice Ao15 t765.length co15)) (fun _ hk => hk.2) (.int .i64 t768)) (fun _ hk => hk.2) (.int .i64 t769)) (fun _ h_ => h_.1))) hb); have n3_ := Aside0.mk (Kd.S_lower (Kd.S_new' (Kd.S_new' ho0 (Kd.R_lt (by (with_reducible repeat (first | apply Kd.R_alloc | apply Kd.R_drewN | apply Kd.R_drew)); exact (Kd.R_mono (Kd.R_far (p := ⟨gb770, 4, none⟩) (Kd.R_far (p := ⟨gb770, 3, none⟩) (Kd.R_far (p := ⟨gb770, 2, none⟩) (Kd.R_far (p := ⟨gb770, 1, none⟩) (Kd.R_far (p := ⟨gb770, 0, none⟩) (Kd.R_types HO764.out BK770.out (by decide)) (fun _ hk => hk.2) (.slice Ao12 t759.length co12)) (fun _ hk => hk.2) (.slice Ao14 t762.length co14)) (fun _ hk => hk.2) (.slice Ao15 t765.length co15)) (fun _ hk => hk.2) (.int .i64 t768)) (fun _ hk => hk.2) (.int .i64 t769)) (fun _ h_ => h_.1))))) (Kd.R_lt (by (with_reducible repeat (first | apply Kd.R_alloc | apply Kd.R_drewN | apply Kd.R_drew)); exact (Kd.R_mono (Kd.R_far (p := ⟨gb770, 4, none⟩) (Kd.R_far (p := ⟨gb770, 3, none⟩) (Kd.R_far (p := ⟨gb770, 2, none⟩) (Kd.R_far (p := ⟨gb770, 1, none⟩) (Kd.R_far (p := ⟨gb770, 0, none⟩) (Kd.R_types HO767.out BK770.out (by decide)) (fun _ hk => hk.2) (.slice Ao12 t759.length co12)) (fun _ hk => hk.2) (.slice Ao14 t762.length co14)) (fun _ hk => hk.2) (.slice Ao15 t765.length co15)) (fun _ hk => hk.2) (.int .i64 t768)) (fun _ hk => hk.2) (.int .i64 t769)) (fun _ h_ => h_.1))))) (below_size (by repeat (first | (with_reducible first | exact HB.out | apply below_alloc | apply pw_below_drewN | apply below_drew1 | refine below_set ?_ GE770.out) | exact HB.out)))); have n4_ := Aside0.mk (blk_below (g := gb770) (o := .cells #[.slice Ao12 t759.length co12, .slice Ao14 t762.length co14, .slice Ao15 t765.length co15, .int .i64 t768, .int .i64 t769] 64 (0, 0)) (by (with_reducible repeat (first | refine blk_drewN ?_ _ | refine blk_drew ?_ | refine blk_alloc ?_ _)); refine blk_put (cs := #[.slice Ao12 t759.length co12, .slice Ao14 t762.length co14, .slice Ao15 t765.length co15, .int .i64 t768, .int .i64 0]) ?_ 4 _ rfl; (with_reducible repeat (first | refine blk_drewN ?_ _ | refine blk_drew ?_ | refine blk_alloc ?_ _)); refine blk_put (cs := #[.slice Ao12 t759.length co12, .slice Ao14 t762.length co14, .slice Ao15 t765.length co15, .int .i64 0, .int .i64 0]) ?_ 3 _ rfl; (with_reducible repeat (first | refine blk_drewN ?_ _ | refine blk_drew ?_ | refine blk_alloc ?_ _)); refine blk_put (cs := #[.slice Ao12 t759.length co12, .slice Ao14 t762.length co14, .slice none 0 0, .int .i64 0, .int .i64 0]) ?_ 2 _ rfl; (with_reducible repeat (first | refine blk_drewN ?_ _ | refine blk_drew ?_ | refine blk_alloc ?_ _)); refine blk_put (cs := #[.slice Ao12 t759.length co12, .slice none 0 0, .slice none 0 0, .int .i64 0, .int .i64 0]) ?_ 1 _ rfl; (with_reducible repeat (first | refine blk_drewN ?_ _ | refine blk_drew ?_ | refine blk_alloc ?_ _)); refine blk_put (cs := #[.slice none 0 0, .slice none 0 0, .slice none 0 0, .int .i64 0, .int .i64 0]) ?_ 0 _ rfl; (with_reducible repeat (first | refine blk_drewN ?_ _ | refine blk_drew ?_ | refine blk_alloc ?_ _)); exact BK770.out) hb); have n5_ := Aside0.mk (below_step (by repeat (first | (with_reducible first | exact HB.out | apply below_alloc | apply pw_below_drewN | apply below_drew1 | refine below_set ?_ GE770.out) | exact HB.out)) hb); clear HO761; clear HO764; clear HO767; clear BK770; clear HB; have HO761 := n0_; have HO764 := n1_; have HO767 := n2_; have HO773 := n3_; have BK770 := n4_; have HB := n5_; clear n0_ n1_ n2_ n3_ n4_ n5_; (try clear hb); (try clear hb2); (try clear hk); (try clear hi); (try clear ho0); have hcz17_0 : w16.cell? ⟨gb770, 0, none⟩ = some (.slice Ao12 t759.length co12) := (blk_cell BK770.out 0).trans rfl; have hcz17_1 : w16.cell? ⟨gb770, 1, none⟩ = some (.slice Ao14 t762.length co14) := (blk_cell BK770.out 1).trans rfl; have hcz17_2 : w16.cell? ⟨gb770, 2, none⟩ = some (.slice Ao15 t765.length co15) := (blk_cell BK770.out 2).trans rfl; have hcz17_3 : w16.cell? ⟨gb770, 3, none⟩ = some (.int .i64 t768) := (blk_cell BK770.out 3).trans rfl; have hcz17_4 : w16.cell? ⟨gb770, 4, none⟩ = some (.int .i64 t769) := (blk_cell BK770.out 4).trans rfl; have hfz17_0 := blk_frozen BK770.out 0; have hfz17_1 := blk_frozen BK770.out 1; have hfz17_2 := blk_frozen BK770.out 2; have hfz17_3 := blk_frozen BK770.out 3; have hfz17_4 := blk_frozen BK770.out 4; obtain ⟨Ao18, co18, eo18⟩ := Kd.S_slice HO773.out; subst eo18) | (go_at_call 48; (with_reducible refine (impl_WornAt.calls k _ _ t759 _ _ t762 _ _ t765 t768 t769 _ _ t771 0 t774 t777 _ ?side1 ?side2 ?side3 ?side4 ?side5 ?side6 ?side7 ?side8 A7.out).mono ?_); (case side1 => repeat (first | exact (Kd.R_reads' HO761.out).2.2 | (with_reducible refine Kd.C_alloc ?_ _) | (with_reducible refine Kd.C_drewN ?_ _) | (with_reducible refine Kd.C_drew ?_))); (case side2 => exact (Kd.R_reads' HO761.out).2.1); (case side3 => repeat (first | exact (Kd.R_reads' HO764.out).2.2 | (with_reducible refine Kd.C_alloc ?_ _) | (with_reducible refine Kd.C_drewN ?_ _) | (with_reducible refine Kd.C_drew ?_))); (case side4 => exact (Kd.R_reads' HO764.out).2.1); (case side5 => repeat (first | exact (Kd.R_reads' HO767.out).2.2 | (with_reducible refine Kd.C_alloc ?_ _) | (with_reducible refine Kd.C_drewN ?_ _) | (with_reducible refine Kd.C_drew ?_))); (case side6 => exact (Kd.R_reads' HO767.out).2.1); (case side7 => repeat (first | exact (Kd.S_reads' HO773.out).2.2 | (with_reducible refine Kd.C_alloc ?_ _) | (with_reducible refine Kd.C_drewN ?_ _) | (with_reducible refine Kd.C_drew ?_))); (case side8 => exact (Kd.S_reads' HO773.out).2.1); rintro e w19 ⟨v775, rfl, ho0, hb⟩; have n0_ := Aside0.mk (Kd.R_below (by (with_reducible repeat (first | apply Kd.R_alloc | apply Kd.R_drewN | apply Kd.R_drew)); exact HO761.out) hb); have n1_ := Aside0.mk (Kd.R_elder' (by (with_reducible repeat (first | apply Kd.R_alloc | apply Kd.R_drewN | apply Kd.R_drew)); exact HO764.out) (Kd.R_base ho0) hb); have n2_ := Aside0.mk (Kd.R_elder' (by (with_reducible repeat (first | apply Kd.R_alloc | apply Kd.R_drewN | apply Kd.R_drew)); exact HO767.out) (Kd.R_base ho0) hb); have n3_ := Aside0.mk (Kd.S_elder' (by (with_reducible repeat (first | apply Kd.S_alloc | apply Kd.S_drewN | apply Kd.S_drew)); exact HO773.out) (Kd.R_base ho0) hb); have n4_ := Aside0.mk (Kd.R_lower (Kd.R_new' (Kd.R_new' ho0 (Kd.R_lt (by (with_reducible repeat (first | apply Kd.R_alloc | apply Kd.R_drewN | apply Kd.R_drew)); exact HO764.out))) (Kd.R_lt (by (with_reducible repeat (first | apply Kd.R_alloc | apply Kd.R_drewN | apply Kd.R_drew)); exact HO767.out))) (below_size (by repeat (first | (with_reducible first | exact HB.out | apply below_alloc | apply pw_below_drewN | apply below_drew1 | refine below_set ?_ GE770.out) | exact HB.out)))); have n5_ := Aside0.mk (blk_below (g := gb770) (o := .cells #[.slice Ao12 t759.length co12, .slice Ao14 t762.length co14, .slice Ao15 t765.length co15, .int .i64 t768, .int .i64 t769] 64 (0, 0)) (by (with_reducible repeat (first | refine blk_drewN ?_ _ | refine blk_drew ?_ | refine blk_alloc ?_ _)); exact BK770.out) hb); have n6_ := Aside0.mk (below_step (by repeat (first | (with_reducible first | exact HB.out | apply below_alloc | apply pw_below_drewN | apply below_drew1 | refine below_set ?_ GE770.out) | exact HB.out)) hb); clear HO761; clear HO764; clear HO767; clear HO773; clear BK770; clear HB; have HO761 := n0_; have HO764 := n1_; have HO767 := n2_; have HO773 := n3_; have HO776 := n4_; have BK770 := n5_; have HB := n6_; clear n0_ n1_ n2_ n3_ n4_ n5_ n6_; (try clear hb); (try clear hb2); (try clear hk); (try clear hi); (try clear ho0); have hcz20_0 : w19.cell? ⟨gb770, 0, none⟩ = some (.slice Ao12 t759.length co12) := (blk_cell BK770.out 0).trans rfl; have hcz20_1 : w19.cell? ⟨gb770, 1, none⟩ = some (.slice Ao14 t762.length co14) := (blk_cell BK770.out 1).trans rfl; have hcz20_2 : w19.cell? ⟨gb770, 2, none⟩ = some (.slice Ao15 t765.length co15) := (blk_cell BK770.out 2).trans rfl; have hcz20_3 : w19.cell? ⟨gb770, 3, none⟩ = some (.int .i64 t768) := (blk_cell BK770.out 3).trans rfl; have hcz20_4 : w19.cell? ⟨gb770, 4, none⟩ = some (.int .i64 t769) := (blk_cell BK770.out 4).trans rfl; have hfz20_0 := blk_frozen BK770.out 0; have hfz20_1 := blk_frozen BK770.out 1; have hfz20_2 := blk_frozen BK770.out 2; have hfz20_3 := blk_frozen BK770.out 3; have hfz20_4 := blk_frozen BK770.out 4) | (go_at_call 49; (with_reducible refine (impl_FirstFailure.calls k _ _ t759 _ _ t762 _ _ t765 t768 t769 _ _ t771 t778 t779 t780 _ ?side1 ?side2 ?side3 ?side4 ?side5 ?side6 ?side7 ?side8 A8.out).mono ?_); (case side1 => repeat (first | exact (Kd.R_reads' HO761.out).2.2 | (with_reducible refine Kd.C_alloc ?_ _) | (with_reducible refine Kd.C_drewN ?_ _) | (with_reducible refine Kd.C_drew ?_))); (case side2 => exact (Kd.R_reads' HO761.out).2.1); (case side3 => repeat (first | exact (Kd.R_reads' HO764.out).2.2 | (with_reducible refine Kd.C_alloc ?_ _) | (with_reducible refine Kd.C_drewN ?_ _) | (with_reducible refine Kd.C_drew ?_))); (case side4 => exact (Kd.R_reads' HO764.out).2.1); (case side5 => repeat (first | exact (Kd.R_reads' HO767.out).2.2 | (with_reducible refine Kd.C_alloc ?_ _) | (with_reducible refine Kd.C_drewN ?_ _) | (with_reducible refine Kd.C_drew ?_))); (case side6 => exact (Kd.R_reads' HO767.out).2.1); (case side7 => repeat (first | exact (Kd.S_reads' HO773.out).2.2 | (with_reducible refine Kd.C_alloc ?_ _) | (with_reducible refine Kd.C_drewN ?_ _) | (with_reducible refine Kd.C_drew ?_))); (case side8 => exact (Kd.S_reads' HO773.out).2.1); rintro e w21 ⟨rfl, hb⟩; have n0_ := Aside0.mk (Kd.R_below (by (with_reducible repeat (first | apply Kd.R_alloc | apply Kd.R_drewN | apply Kd.R_drew)); exact HO761.out) hb); have n1_ := Aside0.mk (Kd.R_below (by (with_reducible repeat (first | apply Kd.R_alloc | apply Kd.R_drewN | apply Kd.R_drew)); exact HO764.out) hb); have n2_ := Aside0.mk (Kd.R_below (by (with_reducible repeat (first | apply Kd.R_alloc | apply Kd.R_drewN | apply Kd.R_drew)); exact HO767.out) hb); have n3_ := Aside0.mk (Kd.S_below (by (with_reducible repeat (first | apply Kd.S_alloc | apply Kd.S_drewN | apply Kd.S_drew)); exact HO773.out) hb); have n4_ := Aside0.mk (Kd.R_below (by (with_reducible repeat (first | apply Kd.R_alloc | apply Kd.R_drewN | apply Kd.R_drew)); exact HO776.out) hb); have n5_ := Aside0.mk (blk_below (g := gb770) (o := .cells #[.slice Ao12 t759.length co12, .slice Ao14 t762.length co14, .slice Ao15 t765.length co15, .int .i64 t768, .int .i64 t769] 64 (0, 0)) (by (with_reducible repeat (first | refine blk_drewN ?_ _ | refine blk_drew ?_ | refine blk_alloc ?_ _)); exact BK770.out) hb); have n6_ := Aside0.mk (below_step (by repeat (first | (with_reducible first | exact HB.out | apply below_alloc | apply pw_below_drewN | apply below_drew1 | refine below_set ?_ GE770.out) | exact HB.out)) hb); clear HO761; clear HO764; clear HO767; clear HO773; clear HO776; clear BK770; clear HB; have HO761 := n0_; have HO764 := n1_; have HO767 := n2_; have HO773 := n3_; have HO776 := n4_; have BK770 := n5_; have HB := n6_; clear n0_ n1_ n2_ n3_ n4_ n5_ n6_; (try clear hb); (try clear hb2); (try clear hk); (try clear hi))); go_upto_region 7 with (first | (go_at_call 45; (with_reducible refine (laws_r8Long.calls _ _ l0 _ _ l1 false _ ?side1 ?side2 ?side3 ?side4 A3.out).mono ?_); (case side1 => repeat (first | exact HR0.out | (with_reducible refine Kd.C_alloc ?_ _) | (with_reducible refine Kd.C_drewN ?_ _) | (with_reducible refine Kd.C_drew ?_))); (case side2 => exact HC0.out); (case side3 => repeat (first | exact HR1.out | (with_reducible refine Kd.C_alloc ?_ _) | (with_reducible refine Kd.C_drewN ?_ _) | (with_reducible refine Kd.C_drew ?_))); (case side4 => exact HC1.out); rintro e w' ⟨rfl, ⟨nd, rfl⟩⟩; (try first | exact ⟨rfl, _, World.drewN_drewN _ _ _⟩ | exact ⟨rfl, _, Eq.trans (World.drewN_drewN _ _ _) (congrArg (World.drewN _) (Nat.add_assoc _ _ _))⟩)) | (go_at_call 46; (with_reducible refine (spec_R8Head.calls k _ _ l0 t759 t762 t765 t768 t769 _ ?side1 ?side2 A5.out).mono ?_); (case side1 => repeat (first | exact HR0.out | (with_reducible refine Kd.C_alloc ?_ _) | (with_reducible refine Kd.C_drewN ?_ _) | (with_reducible refine Kd.C_drew ?_))); (case side2 => exact HC0.out); rintro e w10 ⟨v760, v763, v766, rfl, ho0, ho1, ho2, hb⟩; have n0_ := Aside0.mk (Kd.R_lower ho0 (below_size (by repeat (first | (with_reducible first | exact HB.out | apply below_alloc | apply pw_below_drewN | apply below_drew1) | exact HB.out)))); have n1_ := Aside0.mk (Kd.R_lower ho1 (below_size (by repeat (first | (with_reducible first | exact HB.out | apply below_alloc | apply pw_below_drewN | apply below_drew1) | exact HB.out)))); have n2_ := Aside0.mk (Kd.R_lower ho2 (below_size (by repeat (first | (with_reducible first | exact HB.out | apply below_alloc | apply pw_below_drewN | apply below_drew1) | exact HB.out)))); have n3_ := Aside0.mk (below_step (by repeat (first | (with_reducible first | exact HB.out | apply below_alloc | apply pw_below_drewN | apply below_drew1) | exact HB.out)) hb); clear HB; have HO761 := n0_; have HO764 := n1_; have HO767 := n2_; have HB := n3_; clear n0_ n1_ n2_ n3_; (try clear hb); (try clear hb2); (try clear hk); (try clear hi); (try clear ho0); (try clear ho1); (try clear ho2)) | ((with_reducible refine gate_dst (N := 5) rfl ?_); (try (refine gate_guard (by rfl) ?_; dsimp only)); refine box_event ?hg (N := 5) ?hd (cs := #[.slice none 0 0, .slice none 0 0, .slice none 0 0, .int .i64 0, .int .i64 0]) (t := 64) ?hr ?_; (case hd => rfl); (case hg => rfl); (case hr => first | (go_simp; done) | (go_simp; rfl)); intro gb770 hg w11 hbox hb; have n0_ := Aside0.mk (Kd.R_below (by (with_reducible repeat (first | apply Kd.R_alloc | apply Kd.R_drewN | apply Kd.R_drew)); exact HO761.out) hb); have n1_ := Aside0.mk (Kd.R_below (by (with_reducible repeat (first | apply Kd.R_alloc | apply Kd.R_drewN | apply Kd.R_drew)); exact HO764.out) hb); have n2_ := Aside0.mk (Kd.R_below (by (with_reducible repeat (first | apply Kd.R_alloc | apply Kd.R_drewN | apply Kd.R_drew)); exact HO767.out) hb); have n3_ := Aside0.mk (below_step (by repeat (first | (with_reducible first | exact HB.out | apply below_alloc | apply pw_below_drewN | apply below_drew1) | exact HB.out)) hb); have n4_ := Aside0.mk (hbox); have n5_ := Aside0.mk ((by rw [hg]; exact (below_size (by repeat (first | (with_reducible first | exact HB.out | apply below_alloc | apply pw_below_drewN | apply below_drew1) | exact HB.out))) : w.heap.size ≤ gb770)); have n6_ := Aside0.mk ((by rw [hg]; exact (below_size (by repeat (first | (with_reducible first | exact HB.out | apply below_alloc | apply pw_below_drewN | apply below_drew1) | exact HB.out))) : w.heap.size ≤ gb770)); clear HO761; clear HO764; clear HO767; clear HB; have HO761 := n0_; have HO764 := n1_; have HO767 := n2_; have HB := n3_; have BK770 := n4_; have GW770 := n5_; have GE770 := n6_; clear n0_ n1_ n2_ n3_ n4_ n5_ n6_; clear hb hbox hg; obtain ⟨Ao12, co12, eo12⟩ := Kd.R_slice HO761.out; subst eo12; have hcz13_0 : w11.cell? ⟨gb770, 0, none⟩ = some (.slice none 0 0) := (blk_cell BK770.out 0).trans rfl; have hcz13_1 : w11.cell? ⟨gb770, 1, none⟩ = some (.slice none 0 0) := (blk_cell BK770.out 1).trans rfl; have hcz13_2 : w11.cell? ⟨gb770, 2, none⟩ = some (.slice none 0 0) := (blk_cell BK770.out 2).trans rfl; have hcz13_3 : w11.cell? ⟨gb770, 3, none⟩ = some (.int .i64 0) := (blk_cell BK770.out 3).trans rfl; have hcz13_4 : w11.cell? ⟨gb770, 4, none⟩ = some (.int .i64 0) := (blk_cell BK770.out 4).trans rfl; have hfz13_0 := blk_frozen BK770.out 0; have hfz13_1 := blk_frozen BK770.out 1; have hfz13_2 := blk_frozen BK770.out 2; have hfz13_3 := blk_frozen BK770.out 3; have hfz13_4 := blk_frozen BK770.out 4; obtain ⟨Ao14, co14, eo14⟩ := Kd.R_slice HO764.out; subst eo14; obtain ⟨Ao15, co15, eo15⟩ := Kd.R_slice HO767.out; subst eo15) | (go_at_call 47; (with_reducible refine (spec_R8Plan.calls k _ _ l1 _ _ t759 _ _ t762 _ _ t765 t768 t769 t771 _ ?side1 ?side2 ?side3 ?side4 ?side5 ?side6 ?side7 ?side8 A6.out).mono ?_); (case side1 => exact Kd.C_below HR1.out (by repeat (first | (with_reducible first | exact HB.out | apply below_alloc | apply pw_below_drewN | apply below_drew1 | refine below_set ?_ GE770.out) | exact HB.out))); (case side2 => exact HC1.out); (case side3 => refine (Kd.R_reads' (e := 79) (base := w.heap.size) (ok := fun k_ => True) (n := t759.length) (c := co12) ?_).2.2; exact (by (with_reducible repeat (first | apply Kd.R_alloc | apply Kd.R_drewN | apply Kd.R_drew)); exact (Kd.R_mono (Kd.R_far (p := ⟨gb770, 4, none⟩) (Kd.R_far (p := ⟨gb770, 3, none⟩) (Kd.R_far (p := ⟨gb770, 2, none⟩) (Kd.R_far (p := ⟨gb770, 1, none⟩) (Kd.R_far (p := ⟨gb770, 0, none⟩) (Kd.R_types HO761.out BK770.out (by decide)) (fun _ hk => hk.2) (.slice Ao12 t759.length co12)) (fun _ hk => hk.2) (.slice Ao14 t762.length co14)) (fun _ hk => hk.2) (.slice Ao15 t765.length co15)) (fun _ hk => hk.2) (.int .i64 t768)) (fun _ hk => hk.2) (.int .i64 t769)) (fun _ h_ => h_.1)))); (case side4 => exact (Kd.R_reads' HO761.out).2.1); (case side5 => refine (Kd.R_reads' (e := 2) (base := w.heap.size) (ok := fun k_ => some k_ ≠ (.slice Ao15 t765.length co15 : Value).ownBlock) (n := t762.length) (c := co14) ?_).2.2; exact (by (with_reducible repeat (first | apply Kd.R_alloc | apply Kd.R_drewN | apply Kd.R_drew)); exact (Kd.R_mono (Kd.R_far (p := ⟨gb770, 4, none⟩) (Kd.R_far (p := ⟨gb770, 3, none⟩) (Kd.R_far (p := ⟨gb770, 2, none⟩) (Kd.R_far (p := ⟨gb770, 1, none⟩) (Kd.R_far (p := ⟨gb770, 0, none⟩) (Kd.R_types HO764.out BK770.out (by decide)) (fun _ hk => hk.2) (.slice Ao12 t759.length co12)) (fun _ hk => hk.2) (.slice Ao14 t762.length co14)) (fun _ hk => hk.2) (.slice Ao15 t765.length co15)) (fun _ hk => hk.2) (.int .i64 t768)) (fun _ hk => hk.2) (.int .i64 t769)) (fun _ h_ => h_.1)))); (case side6 => exact (Kd.R_reads' HO764.out).2.1); (case side7 => refine (Kd.R_reads' (e := 2) (base := w.heap.size) (ok := fun k_ => some k_ ≠ (.slice Ao14 t762.length co14 : Value).ownBlock) (n := t765.length) (c := co15) ?_).2.2; exact (by (with_reducible repeat (first | apply Kd.R_alloc | apply Kd.R_drewN | apply Kd.R_drew)); exact (Kd.R_mono (Kd.R_far (p := ⟨gb770, 4, none⟩) (Kd.R_far (p := ⟨gb770, 3, none⟩) (Kd.R_far (p := ⟨gb770, 2, none⟩) (Kd.R_far (p := ⟨gb770, 1, none⟩) (Kd.R_far (p := ⟨gb770, 0, none⟩) (Kd.R_types HO767.out BK770.out (by decide)) (fun _ hk => hk.2) (.slice Ao12 t759.length co12)) (fun _ hk => hk.2) (.slice Ao14 t762.length co14)) (fun _ hk => hk.2) (.slice Ao15 t765.length co15)) (fun _ hk => hk.2) (.int .i64 t768)) (fun _ hk => hk.2) (.int .i64 t769)) (fun _ h_ => h_.1)))); (case side8 => exact (Kd.R_reads' HO767.out).2.1); rintro e w16 ⟨v772, rfl, ho0, hb⟩; have n0_ := Aside0.mk (Kd.R_below (by (with_reducible repeat (first | apply Kd.R_alloc | apply Kd.R_drewN | apply Kd.R_drew)); exact (Kd.R_mono (Kd.R_far (p := ⟨gb770, 4, none⟩) (Kd.R_far (p := ⟨gb770, 3, none⟩) (Kd.R_far (p := ⟨gb770, 2, none⟩) (Kd.R_far (p := ⟨gb770, 1, none⟩) (Kd.R_far (p := ⟨gb770, 0, none⟩) (Kd.R_types HO761.out BK770.out (by decide)) (fun _ hk => hk.2) (.slice Ao12 t759.length co12)) (fun _ hk => hk.2) (.slice Ao14 t762.length co14)) (fun _ hk => hk.2) (.slice Ao15 t765.length co15)) (fun _ hk => hk.2) (.int .i64 t768)) (fun _ hk => hk.2) (.int .i64 t769)) (fun _ h_ => h_.1))) hb); have n1_ := Aside0.mk (Kd.R_below (by (with_reducible repeat (first | apply Kd.R_alloc | apply Kd.R_drewN | apply Kd.R_drew)); exact (Kd.R_mono (Kd.R_far (p := ⟨gb770, 4, none⟩) (Kd.R_far (p := ⟨gb770, 3, none⟩) (Kd.R_far (p := ⟨gb770, 2, none⟩) (Kd.R_far (p := ⟨gb770, 1, none⟩) (Kd.R_far (p := ⟨gb770, 0, none⟩) (Kd.R_types HO764.out BK770.out (by decide)) (fun _ hk => hk.2) (.slice Ao12 t759.length co12)) (fun _ hk => hk.2) (.slice Ao14 t762.length co14)) (fun _ hk => hk.2) (.slice Ao15 t765.length co15)) (fun _ hk => hk.2) (.int .i64 t768)) (fun _ hk => hk.2) (.int .i64 t769)) (fun _ h_ => h_.1))) hb); have n2_ := Aside0.mk (Kd.R_below (by (with_reducible repeat (first | apply Kd.R_alloc | apply Kd.R_drewN | apply Kd.R_drew)); exact (Kd.R_mono (Kd.R_far (p := ⟨gb770, 4, none⟩) (Kd.R_far (p := ⟨gb770, 3, none⟩) (Kd.R_far (p := ⟨gb770, 2, none⟩) (Kd.R_far (p := ⟨gb770, 1, none⟩) (Kd.R_far (p := ⟨gb770, 0, none⟩) (Kd.R_types HO767.out BK770.out (by decide)) (fun _ hk => hk.2) (.slice Ao12 t759.length co12)) (fun _ hk => hk.2) (.slice Ao14 t762.length co14)) (fun _ hk => hk.2) (.slice Ao15 t765.length co15)) (fun _ hk => hk.2) (.int .i64 t768)) (fun _ hk => hk.2) (.int .i64 t769)) (fun _ h_ => h_.1))) hb); have n3_ := Aside0.mk (Kd.S_lower (Kd.S_new' (Kd.S_new' ho0 (Kd.R_lt (by (with_reducible repeat (first | apply Kd.R_alloc | apply Kd.R_drewN | apply Kd.R_drew)); exact (Kd.R_mono (Kd.R_far (p := ⟨gb770, 4, none⟩) (Kd.R_far (p := ⟨gb770, 3, none⟩) (Kd.R_far (p := ⟨gb770, 2, none⟩) (Kd.R_far (p := ⟨gb770, 1, none⟩) (Kd.R_far (p := ⟨gb770, 0, none⟩) (Kd.R_types HO764.out BK770.out (by decide)) (fun _ hk => hk.2) (.slice Ao12 t759.length co12)) (fun _ hk => hk.2) (.slice Ao14 t762.length co14)) (fun _ hk => hk.2) (.slice Ao15 t765.length co15)) (fun _ hk => hk.2) (.int .i64 t768)) (fun _ hk => hk.2) (.int .i64 t769)) (fun _ h_ => h_.1))))) (Kd.R_lt (by (with_reducible repeat (first | apply Kd.R_alloc | apply Kd.R_drewN | apply Kd.R_drew)); exact (Kd.R_mono (Kd.R_far (p := ⟨gb770, 4, none⟩) (Kd.R_far (p := ⟨gb770, 3, none⟩) (Kd.R_far (p := ⟨gb770, 2, none⟩) (Kd.R_far (p := ⟨gb770, 1, none⟩) (Kd.R_far (p := ⟨gb770, 0, none⟩) (Kd.R_types HO767.out BK770.out (by decide)) (fun _ hk => hk.2) (.slice Ao12 t759.length co12)) (fun _ hk => hk.2) (.slice Ao14 t762.length co14)) (fun _ hk => hk.2) (.slice Ao15 t765.length co15)) (fun _ hk => hk.2) (.int .i64 t768)) (fun _ hk => hk.2) (.int .i64 t769)) (fun _ h_ => h_.1))))) (below_size (by repeat (first | (with_reducible first | exact HB.out | apply below_alloc | apply pw_below_drewN | apply below_drew1 | refine below_set ?_ GE770.out) | exact HB.out)))); have n4_ := Aside0.mk (blk_below (g := gb770) (o := .cells #[.slice Ao12 t759.length co12, .slice Ao14 t762.length co14, .slice Ao15 t765.length co15, .int .i64 t768, .int .i64 t769] 64 (0, 0)) (by (with_reducible repeat (first | refine blk_drewN ?_ _ | refine blk_drew ?_ | refine blk_alloc ?_ _)); refine blk_put (cs := #[.slice Ao12 t759.length co12, .slice Ao14 t762.length co14, .slice Ao15 t765.length co15, .int .i64 t768, .int .i64 0]) ?_ 4 _ rfl; (with_reducible repeat (first | refine blk_drewN ?_ _ | refine blk_drew ?_ | refine blk_alloc ?_ _)); refine blk_put (cs := #[.slice Ao12 t759.length co12, .slice Ao14 t762.length co14, .slice Ao15 t765.length co15, .int .i64 0, .int .i64 0]) ?_ 3 _ rfl; (with_reducible repeat (first | refine blk_drewN ?_ _ | refine blk_drew ?_ | refine blk_alloc ?_ _)); refine blk_put (cs := #[.slice Ao12 t759.length co12, .slice Ao14 t762.length co14, .slice none 0 0, .int .i64 0, .int .i64 0]) ?_ 2 _ rfl; (with_reducible repeat (first | refine blk_drewN ?_ _ | refine blk_drew ?_ | refine blk_alloc ?_ _)); refine blk_put (cs := #[.slice Ao12 t759.length co12, .slice none 0 0, .slice none 0 0, .int .i64 0, .int .i64 0]) ?_ 1 _ rfl; (with_reducible repeat (first | refine blk_drewN ?_ _ | refine blk_drew ?_ | refine blk_alloc ?_ _)); refine blk_put (cs := #[.slice none 0 0, .slice none 0 0, .slice none 0 0, .int .i64 0, .int .i64 0]) ?_ 0 _ rfl; (with_reducible repeat (first | refine blk_drewN ?_ _ | refine blk_drew ?_ | refine blk_alloc ?_ _)); exact BK770.out) hb); have n5_ := Aside0.mk (below_step (by repeat (first | (with_reducible first | exact HB.out | apply below_alloc | apply pw_below_drewN | apply below_drew1 | refine below_set ?_ GE770.out) | exact HB.out)) hb); clear HO761; clear HO764; clear HO767; clear BK770; clear HB; have HO761 := n0_; have HO764 := n1_; have HO767 := n2_; have HO773 := n3_; have BK770 := n4_; have HB := n5_; clear n0_ n1_ n2_ n3_ n4_ n5_; (try clear hb); (try clear hb2); (try clear hk); (try clear hi); (try clear ho0); have hcz17_0 : w16.cell? ⟨gb770, 0, none⟩ = some (.slice Ao12 t759.length co12) := (blk_cell BK770.out 0).trans rfl; have hcz17_1 : w16.cell? ⟨gb770, 1, none⟩ = some (.slice Ao14 t762.length co14) := (blk_cell BK770.out 1).trans rfl; have hcz17_2 : w16.cell? ⟨gb770, 2, none⟩ = some (.slice Ao15 t765.length co15) := (blk_cell BK770.out 2).trans rfl; have hcz17_3 : w16.cell? ⟨gb770, 3, none⟩ = some (.int .i64 t768) := (blk_cell BK770.out 3).trans rfl; have hcz17_4 : w16.cell? ⟨gb770, 4, none⟩ = some (.int .i64 t769) := (blk_cell BK770.out 4).trans rfl; have hfz17_0 := blk_frozen BK770.out 0; have hfz17_1 := blk_frozen BK770.out 1; have hfz17_2 := blk_frozen BK770.out 2; have hfz17_3 := blk_frozen BK770.out 3; have hfz17_4 := blk_frozen BK770.out 4; obtain ⟨Ao18, co18, eo18⟩ := Kd.S_slice HO773.out; subst eo18) | (go_at_call 48; (with_reducible refine (impl_WornAt.calls k _ _ t759 _ _ t762 _ _ t765 t768 t769 _ _ t771 0 t774 t777 _ ?side1 ?side2 ?side3 ?side4 ?side5 ?side6 ?side7 ?side8 A7.out).mono ?_); (case side1 => repeat (first | exact (Kd.R_reads' HO761.out).2.2 | (with_reducible refine Kd.C_alloc ?_ _) | (with_reducible refine Kd.C_drewN ?_ _) | (with_reducible refine Kd.C_drew ?_))); (case side2 => exact (Kd.R_reads' HO761.out).2.1); (case side3 => repeat (first | exact (Kd.R_reads' HO764.out).2.2 | (with_reducible refine Kd.C_alloc ?_ _) | (with_reducible refine Kd.C_drewN ?_ _) | (with_reducible refine Kd.C_drew ?_))); (case side4 => exact (Kd.R_reads' HO764.out).2.1); (case side5 => repeat (first | exact (Kd.R_reads' HO767.out).2.2 | (with_reducible refine Kd.C_alloc ?_ _) | (with_reducible refine Kd.C_drewN ?_ _) | (with_reducible refine Kd.C_drew ?_))); (case side6 => exact (Kd.R_reads' HO767.out).2.1); (case side7 => repeat (first | exact (Kd.S_reads' HO773.out).2.2 | (with_reducible refine Kd.C_alloc ?_ _) | (with_reducible refine Kd.C_drewN ?_ _) | (with_reducible refine Kd.C_drew ?_))); (case side8 => exact (Kd.S_reads' HO773.out).2.1); rintro e w19 ⟨v775, rfl, ho0, hb⟩; have n0_ := Aside0.mk (Kd.R_below (by (with_reducible repeat (first | apply Kd.R_alloc | apply Kd.R_drewN | apply Kd.R_drew)); exact HO761.out) hb); have n1_ := Aside0.mk (Kd.R_elder' (by (with_reducible repeat (first | apply Kd.R_alloc | apply Kd.R_drewN | apply Kd.R_drew)); exact HO764.out) (Kd.R_base ho0) hb); have n2_ := Aside0.mk (Kd.R_elder' (by (with_reducible repeat (first | apply Kd.R_alloc | apply Kd.R_drewN | apply Kd.R_drew)); exact HO767.out) (Kd.R_base ho0) hb); have n3_ := Aside0.mk (Kd.S_elder' (by (with_reducible repeat (first | apply Kd.S_alloc | apply Kd.S_drewN | apply Kd.S_drew)); exact HO773.out) (Kd.R_base ho0) hb); have n4_ := Aside0.mk (Kd.R_lower (Kd.R_new' (Kd.R_new' ho0 (Kd.R_lt (by (with_reducible repeat (first | apply Kd.R_alloc | apply Kd.R_drewN | apply Kd.R_drew)); exact HO764.out))) (Kd.R_lt (by (with_reducible repeat (first | apply Kd.R_alloc | apply Kd.R_drewN | apply Kd.R_drew)); exact HO767.out))) (below_size (by repeat (first | (with_reducible first | exact HB.out | apply below_alloc | apply pw_below_drewN | apply below_drew1 | refine below_set ?_ GE770.out) | exact HB.out)))); have n5_ := Aside0.mk (blk_below (g := gb770) (o := .cells #[.slice Ao12 t759.length co12, .slice Ao14 t762.length co14, .slice Ao15 t765.length co15, .int .i64 t768, .int .i64 t769] 64 (0, 0)) (by (with_reducible repeat (first | refine blk_drewN ?_ _ | refine blk_drew ?_ | refine blk_alloc ?_ _)); exact BK770.out) hb); have n6_ := Aside0.mk (below_step (by repeat (first | (with_reducible first | exact HB.out | apply below_alloc | apply pw_below_drewN | apply below_drew1 | refine below_set ?_ GE770.out) | exact HB.out)) hb); clear HO761; clear HO764; clear HO767; clear HO773; clear BK770; clear HB; have HO761 := n0_; have HO764 := n1_; have HO767 := n2_; have HO773 := n3_; have HO776 := n4_; have BK770 := n5_; have HB := n6_; clear n0_ n1_ n2_ n3_ n4_ n5_ n6_; (try clear hb); (try clear hb2); (try clear hk); (try clear hi); (try clear ho0); have hcz20_0 : w19.cell? ⟨gb770, 0, none⟩ = some (.slice Ao12 t759.length co12) := (blk_cell BK770.out 0).trans rfl; have hcz20_1 : w19.cell? ⟨gb770, 1, none⟩ = some (.slice Ao14 t762.length co14) := (blk_cell BK770.out 1).trans rfl; have hcz20_2 : w19.cell? ⟨gb770, 2, none⟩ = some (.slice Ao15 t765.length co15) := (blk_cell BK770.out 2).trans rfl; have hcz20_3 : w19.cell? ⟨gb770, 3, none⟩ = some (.int .i64 t768) := (blk_cell BK770.out 3).trans rfl; have hcz20_4 : w19.cell? ⟨gb770, 4, none⟩ = some (.int .i64 t769) := (blk_cell BK770.out 4).trans rfl; have hfz20_0 := blk_frozen BK770.out 0; have hfz20_1 := blk_frozen BK770.out 1; have hfz20_2 := blk_frozen BK770.out 2; have hfz20_3 := blk_frozen BK770.out 3; have hfz20_4 := blk_frozen BK770.out 4) | (go_at_call 49; (with_reducible refine (impl_FirstFailure.calls k _ _ t759 _ _ t762 _ _ t765 t768 t769 _ _ t771 t778 t779 t780 _ ?side1 ?side2 ?side3 ?side4 ?side5 ?side6 ?side7 ?side8 A8.out).mono ?_); (case side1 => repeat (first | exact (Kd.R_reads' HO761.out).2.2 | (with_reducible refine Kd.C_alloc ?_ _) | (with_reducible refine Kd.C_drewN ?_ _) | (with_reducible refine Kd.C_drew ?_))); (case side2 => exact (Kd.R_reads' HO761.out).2.1); (case side3 => repeat (first | exact (Kd.R_reads' HO764.out).2.2 | (with_reducible refine Kd.C_alloc ?_ _) | (with_reducible refine Kd.C_drewN ?_ _) | (with_reducible refine Kd.C_drew ?_))); (case side4 => exact (Kd.R_reads' HO764.out).2.1); (case side5 => repeat (first | exact (Kd.R_reads' HO767.out).2.2 | (with_reducible refine Kd.C_alloc ?_ _) | (with_reducible refine Kd.C_drewN ?_ _) | (with_reducible refine Kd.C_drew ?_))); (case side6 => exact (Kd.R_reads' HO767.out).2.1); (case side7 => repeat (first | exact (Kd.S_reads' HO773.out).2.2 | (with_reducible refine Kd.C_alloc ?_ _) | (with_reducible refine Kd.C_drewN ?_ _) | (with_reducible refine Kd.C_drew ?_))); (case side8 => exact (Kd.S_reads' HO773.out).2.1); rintro e w21 ⟨rfl, hb⟩; have n0_ := Aside0.mk (Kd.R_below (by (with_reducible repeat (first | apply Kd.R_alloc | apply Kd.R_drewN | apply Kd.R_drew)); exact HO761.out) hb); have n1_ := Aside0.mk (Kd.R_below (by (with_reducible repeat (first | apply Kd.R_alloc | apply Kd.R_drewN | apply Kd.R_drew)); exact HO764.out) hb); have n2_ := Aside0.mk (Kd.R_below (by (with_reducible repeat (first | apply Kd.R_alloc | apply Kd.R_drewN | apply Kd.R_drew)); exact HO767.out) hb); have n3_ := Aside0.mk (Kd.S_below (by (with_reducible repeat (first | apply Kd.S_alloc | apply Kd.S_drewN | apply Kd.S_drew)); exact HO773.out) hb); have n4_ := Aside0.mk (Kd.R_below (by (with_reducible repeat (first | apply Kd.R_alloc | apply Kd.R_drewN | apply Kd.R_drew)); exact HO776.out) hb); have n5_ := Aside0.mk (blk_below (g := gb770) (o := .cells #[.slice Ao12 t759.length co12, .slice Ao14 t762.length co14, .slice Ao15 t765.length co15, .int .i64 t768, .int .i64 t769] 64 (0, 0)) (by (with_reducible repeat (first | refine blk_drewN ?_ _ | refine blk_drew ?_ | refine blk_alloc ?_ _)); exact BK770.out) hb); have n6_ := Aside0.mk (below_step (by repeat (first | (with_reducible first | exact HB.out | apply below_alloc | apply pw_below_drewN | apply below_drew1 | refine below_set ?_ GE770.out) | exact HB.out)) hb); clear HO761; clear HO764; clear HO767; clear HO773; clear HO776; clear BK770; clear HB; have HO761 := n0_; have HO764 := n1_; have HO767 := n2_; have HO773 := n3_; have HO776 := n4_; have BK770 := n5_; have HB := n6_; clear n0_ n1_ n2_ n3_ n4_ n5_ n6_; (try clear hb); (try clear hb2); (try clear hk); (try clear hi))))
  (try simp only [Act.put, List.setIfInBounds_toArray, List.set_cons_zero, List.set_cons_succ])
  go_cut [62] (fun v62 wc => ∃ (kq : Nat) (x62_8 : Bool), v62 = .bool x62_8 ∧ Aside0 (laws_FnWorn.j0 kq t771 t774 t778 t779 t780 x62_8 t759 t762 t765 t768 t769 = some r) ∧ Aside0 (kq ≤ k) ∧ Aside0 (Kd.S k94 94 wc w.heap.size (fun k_ => some k_ ≠ (v775 : Value).ownBlock ∧ some k_ ≠ ((.slice Ao14 t762.length co14) : Value).ownBlock ∧ some k_ ≠ ((.slice Ao15 t765.length co15) : Value).ownBlock) (.slice Ao18 t771.length co18) t771) ∧ Aside0 (Kd.R (Kd.int .i64) 2 wc w.heap.size (fun k_ => some k_ ≠ ((.slice Ao14 t762.length co14) : Value).ownBlock ∧ some k_ ≠ ((.slice Ao15 t765.length co15) : Value).ownBlock) v775 t774) ∧ Aside0 (Kd.R k79 79 wc w.heap.size (fun _ => True) (.slice Ao12 t759.length co12) t759) ∧ Aside0 (Kd.R (Kd.int .i64) 2 wc w.heap.size (fun k_ => some k_ ≠ (v775 : Value).ownBlock ∧ some k_ ≠ ((.slice Ao15 t765.length co15) : Value).ownBlock) (.slice Ao14 t762.length co14) t762) ∧ Aside0 (Kd.R (Kd.int .i64) 2 wc w.heap.size (fun k_ => some k_ ≠ (v775 : Value).ownBlock ∧ some k_ ≠ ((.slice Ao14 t762.length co14) : Value).ownBlock) (.slice Ao15 t765.length co15) t765) ∧ Aside0 (wc.heap[gb770]? = some (.cells #[(.slice Ao12 t759.length co12), (.slice Ao14 t762.length co14), (.slice Ao15 t765.length co15), .int .i64 t768, .int .i64 t769] 64 (0, 0))) ∧ Aside0 (Below w.heap.size w wc))
  case first =>
   have H := HC9.out
   clear HC9
   by_cases c22 : t777 = true
   ·subst c22
    have H1 : (if (t774.length : Int) = (t759.length : Int) then ((impl_IsPlan.f k t759 t762 t765 t768 t769 t771).bind fun t781 => (if t781 = true then ((impl_IsEnough.f k t759 t762 t765 t768 t769 t771).bind fun t782 => (laws_FnWorn.j0 k t771 t774 t778 t779 t780 (t780 == t782) t759 t762 t765 t768 t769)) else (laws_FnWorn.j0 k t771 t774 t778 t779 t780 true t759 t762 t765 t768 t769))) else (laws_FnWorn.j0 k t771 t774 t778 t779 t780 true t759 t762 t765 t768 t769)) = some r := by rw [if_pos rfl] at H; exact H
    clear H
    have H := H1
    clear H1
    by_cases c23 : (t774.length : Int) = (t759.length : Int)
    ·rw [if_pos c23] at H
     have c23b0 : ((t774.length : Int) == (t759.length : Int)) = true := beq_iff_eq.mpr c23
     have c23b1 : ((t774.length : Int) != (t759.length : Int)) = false := bne_eq_false_iff_eq.mpr c23
     have c23b2 : (t774.length == t759.length) = true := by first | simpa using c23 | (simp at c23 ⊢; omega)
     clear c23
     (first | rw [c23b0] | (simp only [i64_w, i32_w]; rw [c23b0]) | skip)
     replace H := Option.bind_eq_some_iff.mp H
     obtain ⟨t781, A240, H⟩ := H
     replace H : (if t781 = true then ((impl_IsEnough.f k t759 t762 t765 t768 t769 t771).bind fun t782 => (laws_FnWorn.j0 k t771 t774 t778 t779 t780 (t780 == t782) t759 t762 t765 t768 t769)) else (laws_FnWorn.j0 k t771 t774 t778 t779 t780 true t759 t762 t765 t768 t769)) = some r := H
     have A24 := Aside0.mk A240
     clear A240
     by_cases c25 : t781 = true
     ·subst c25
      have H1 : ((impl_IsEnough.f k t759 t762 t765 t768 t769 t771).bind fun t782 => (laws_FnWorn.j0 k t771 t774 t778 t779 t780 (t780 == t782) t759 t762 t765 t768 t769)) = some r := by rw [if_pos rfl] at H; exact H
      clear H
      have H := H1
      clear H1
      replace H := Option.bind_eq_some_iff.mp H
      obtain ⟨t782, A260, H⟩ := H
      replace H : (laws_FnWorn.j0 k t771 t774 t778 t779 t780 (t780 == t782) t759 t762 t765 t768 t769) = some r := H
      have A26 := Aside0.mk A260
      clear A260
      have H' := Aside0.mk H
      clear H
      obtain ⟨Ao27, co27, eo27⟩ := Kd.R_slice HO776.out
      subst eo27
      have hcz28_0 : w21.cell? ⟨gb770, 0, none⟩ = some (.slice Ao12 t759.length co12) := (blk_cell BK770.out 0).trans rfl
      have hcz28_1 : w21.cell? ⟨gb770, 1, none⟩ = some (.slice Ao14 t762.length co14) := (blk_cell BK770.out 1).trans rfl
      have hcz28_2 : w21.cell? ⟨gb770, 2, none⟩ = some (.slice Ao15 t765.length co15) := (blk_cell BK770.out 2).trans rfl
      have hcz28_3 : w21.cell? ⟨gb770, 3, none⟩ = some (.int .i64 t768) := (blk_cell BK770.out 3).trans rfl
      have hcz28_4 : w21.cell? ⟨gb770, 4, none⟩ = some (.int .i64 t769) := (blk_cell BK770.out 4).trans rfl
      have hfz28_0 := blk_frozen BK770.out 0
      have hfz28_1 := blk_frozen BK770.out 1
      have hfz28_2 := blk_frozen BK770.out 2
      have hfz28_3 := blk_frozen BK770.out 3
      have hfz28_4 := blk_frozen BK770.out 4
      go_wp2_with (first | (go_at_call 50; (with_reducible refine (impl_IsPlan.calls k _ _ t759 _ _ t762 _ _ t765 t768 t769 _ _ t771 true _ ?side1 ?side2 ?side3 ?side4 ?side5 ?side6 ?side7 ?side8 A24.out).mono ?_); (case side1 => repeat (first | exact (Kd.R_reads' HO761.out).2.2 | (with_reducible refine Kd.C_alloc ?_ _) | (with_reducible refine Kd.C_drewN ?_ _) | (with_reducible refine Kd.C_drew ?_))); (case side2 => exact (Kd.R_reads' HO761.out).2.1); (case side3 => repeat (first | exact (Kd.R_reads' HO764.out).2.2 | (with_reducible refine Kd.C_alloc ?_ _) | (with_reducible refine Kd.C_drewN ?_ _) | (with_reducible refine Kd.C_drew ?_))); (case side4 => exact (Kd.R_reads' HO764.out).2.1); (case side5 => repeat (first | exact (Kd.R_reads' HO767.out).2.2 | (with_reducible refine Kd.C_alloc ?_ _) | (with_reducible refine Kd.C_drewN ?_ _) | (with_reducible refine Kd.C_drew ?_))); (case side6 => exact (Kd.R_reads' HO767.out).2.1); (case side7 => repeat (first | exact (Kd.S_reads' HO773.out).2.2 | (with_reducible refine Kd.C_alloc ?_ _) | (with_reducible refine Kd.C_drewN ?_ _) | (with_reducible refine Kd.C_drew ?_))); (case side8 => exact (Kd.S_reads' HO773.out).2.1); rintro e w29 ⟨rfl, hb⟩; have n0_ := Aside0.mk (Kd.R_below (by (with_reducible repeat (first | apply Kd.R_alloc | apply Kd.R_drewN | apply Kd.R_drew)); exact HO761.out) hb); have n1_ := Aside0.mk (Kd.R_below (by (with_reducible repeat (first | apply Kd.R_alloc | apply Kd.R_drewN | apply Kd.R_drew)); exact HO764.out) hb); have n2_ := Aside0.mk (Kd.R_below (by (with_reducible repeat (first | apply Kd.R_alloc | apply Kd.R_drewN | apply Kd.R_drew)); exact HO767.out) hb); have n3_ := Aside0.mk (Kd.S_below (by (with_reducible repeat (first | apply Kd.S_alloc | apply Kd.S_drewN | apply Kd.S_drew)); exact HO773.out) hb); have n4_ := Aside0.mk (Kd.R_below (by (with_reducible repeat (first | apply Kd.R_alloc | apply Kd.R_drewN | apply Kd.R_drew)); exact HO776.out) hb); have n5_ := Aside0.mk (blk_below (g := gb770) (o := .cells #[.slice Ao12 t759.length co12, .slice Ao14 t762.length co14, .slice Ao15 t765.length co15, .int .i64 t768, .int .i64 t769] 64 (0, 0)) (by (with_reducible repeat (first | refine blk_drewN ?_ _ | refine blk_drew ?_ | refine blk_alloc ?_ _)); exact BK770.out) hb); have n6_ := Aside0.mk (below_step (by repeat (first | (with_reducible first | exact HB.out | apply below_alloc | apply pw_below_drewN | apply below_drew1 | refine below_set ?_ GE770.out) | exact HB.out)) hb); clear HO761; clear HO764; clear HO767; clear HO773; clear HO776; clear BK770; clear HB; have HO761 := n0_; have HO764 := n1_; have HO767 := n2_; have HO773 := n3_; have HO776 := n4_; have BK770 := n5_; have HB := n6_; clear n0_ n1_ n2_ n3_ n4_ n5_ n6_; (try clear hb); (try clear hb2); (try clear hk); (try clear hi); have hcz30_0 : w29.cell? ⟨gb770, 0, none⟩ = some (.slice Ao12 t759.length co12) := (blk_cell BK770.out 0).trans rfl; have hcz30_1 : w29.cell? ⟨gb770, 1, none⟩ = some (.slice Ao14 t762.length co14) := (blk_cell BK770.out 1).trans rfl; have hcz30_2 : w29.cell? ⟨gb770, 2, none⟩ = some (.slice Ao15 t765.length co15) := (blk_cell BK770.out 2).trans rfl; have hcz30_3 : w29.cell? ⟨gb770, 3, none⟩ = some (.int .i64 t768) := (blk_cell BK770.out 3).trans rfl; have hcz30_4 : w29.cell? ⟨gb770, 4, none⟩ = some (.int .i64 t769) := (blk_cell BK770.out 4).trans rfl; have hfz30_0 := blk_frozen BK770.out 0; have hfz30_1 := blk_frozen BK770.out 1; have hfz30_2 := blk_frozen BK770.out 2; have hfz30_3 := blk_frozen BK770.out 3; have hfz30_4 := blk_frozen BK770.out 4) | (go_at_call 51; (with_reducible refine (impl_IsEnough.calls k _ _ t759 _ _ t762 _ _ t765 t768 t769 _ _ t771 t782 _ ?side1 ?side2 ?side3 ?side4 ?side5 ?side6 ?side7 ?side8 A26.out).mono ?_); (case side1 => repeat (first | exact (Kd.R_reads' HO761.out).2.2 | (with_reducible refine Kd.C_alloc ?_ _) | (with_reducible refine Kd.C_drewN ?_ _) | (with_reducible refine Kd.C_drew ?_))); (case side2 => exact (Kd.R_reads' HO761.out).2.1); (case side3 => repeat (first | exact (Kd.R_reads' HO764.out).2.2 | (with_reducible refine Kd.C_alloc ?_ _) | (with_reducible refine Kd.C_drewN ?_ _) | (with_reducible refine Kd.C_drew ?_))); (case side4 => exact (Kd.R_reads' HO764.out).2.1); (case side5 => repeat (first | exact (Kd.R_reads' HO767.out).2.2 | (with_reducible refine Kd.C_alloc ?_ _) | (with_reducible refine Kd.C_drewN ?_ _) | (with_reducible refine Kd.C_drew ?_))); (case side6 => exact (Kd.R_reads' HO767.out).2.1); (case side7 => repeat (first | exact (Kd.S_reads' HO773.out).2.2 | (with_reducible refine Kd.C_alloc ?_ _) | (with_reducible refine Kd.C_drewN ?_ _) | (with_reducible refine Kd.C_drew ?_))); (case side8 => exact (Kd.S_reads' HO773.out).2.1); rintro e w31 ⟨rfl, hb⟩; have n0_ := Aside0.mk (Kd.R_below (by (with_reducible repeat (first | apply Kd.R_alloc | apply Kd.R_drewN | apply Kd.R_drew)); exact HO761.out) hb); have n1_ := Aside0.mk (Kd.R_below (by (with_reducible repeat (first | apply Kd.R_alloc | apply Kd.R_drewN | apply Kd.R_drew)); exact HO764.out) hb); have n2_ := Aside0.mk (Kd.R_below (by (with_reducible repeat (first | apply Kd.R_alloc | apply Kd.R_drewN | apply Kd.R_drew)); exact HO767.out) hb); have n3_ := Aside0.mk (Kd.S_below (by (with_reducible repeat (first | apply Kd.S_alloc | apply Kd.S_drewN | apply Kd.S_drew)); exact HO773.out) hb); have n4_ := Aside0.mk (Kd.R_below (by (with_reducible repeat (first | apply Kd.R_alloc | apply Kd.R_drewN | apply Kd.R_drew)); exact HO776.out) hb); have n5_ := Aside0.mk (blk_below (g := gb770) (o := .cells #[.slice Ao12 t759.length co12, .slice Ao14 t762.length co14, .slice Ao15 t765.length co15, .int .i64 t768, .int .i64 t769] 64 (0, 0)) (by (with_reducible repeat (first | refine blk_drewN ?_ _ | refine blk_drew ?_ | refine blk_alloc ?_ _)); exact BK770.out) hb); have n6_ := Aside0.mk (below_step (by repeat (first | (with_reducible first | exact HB.out | apply below_alloc | apply pw_below_drewN | apply below_drew1 | refine below_set ?_ GE770.out) | exact HB.out)) hb); clear HO761; clear HO764; clear HO767; clear HO773; clear HO776; clear BK770; clear HB; have HO761 := n0_; have HO764 := n1_; have HO767 := n2_; have HO773 := n3_; have HO776 := n4_; have BK770 := n5_; have HB := n6_; clear n0_ n1_ n2_ n3_ n4_ n5_ n6_; (try clear hb); (try clear hb2); (try clear hk); (try clear hi)))
      repeat (go_quiet (first | (go_at_call 50; (with_reducible refine (impl_IsPlan.calls k _ _ t759 _ _ t762 _ _ t765 t768 t769 _ _ t771 true _ ?side1 ?side2 ?side3 ?side4 ?side5 ?side6 ?side7 ?side8 A24.out).mono ?_); (case side1 => repeat (first | exact (Kd.R_reads' HO761.out).2.2 | (with_reducible refine Kd.C_alloc ?_ _) | (with_reducible refine Kd.C_drewN ?_ _) | (with_reducible refine Kd.C_drew ?_))); (case side2 => exact (Kd.R_reads' HO761.out).2.1); (case side3 => repeat (first | exact (Kd.R_reads' HO764.out).2.2 | (with_reducible refine Kd.C_alloc ?_ _) | (with_reducible refine Kd.C_drewN ?_ _) | (with_reducible refine Kd.C_drew ?_))); (case side4 => exact (Kd.R_reads' HO764.out).2.1); (case side5 => repeat (first | exact (Kd.R_reads' HO767.out).2.2 | (with_reducible refine Kd.C_alloc ?_ _) | (with_reducible refine Kd.C_drewN ?_ _) | (with_reducible refine Kd.C_drew ?_))); (case side6 => exact (Kd.R_reads' HO767.out).2.1); (case side7 => repeat (first | exact (Kd.S_reads' HO773.out).2.2 | (with_reducible refine Kd.C_alloc ?_ _) | (with_reducible refine Kd.C_drewN ?_ _) | (with_reducible refine Kd.C_drew ?_))); (case side8 => exact (Kd.S_reads' HO773.out).2.1); rintro e w29 ⟨rfl, hb⟩; have n0_ := Aside0.mk (Kd.R_below (by (with_reducible repeat (first | apply Kd.R_alloc | apply Kd.R_drewN | apply Kd.R_drew)); exact HO761.out) hb); have n1_ := Aside0.mk (Kd.R_below (by (with_reducible repeat (first | apply Kd.R_alloc | apply Kd.R_drewN | apply Kd.R_drew)); exact HO764.out) hb); have n2_ := Aside0.mk (Kd.R_below (by (with_reducible repeat (first | apply Kd.R_alloc | apply Kd.R_drewN | apply Kd.R_drew)); exact HO767.out) hb); have n3_ := Aside0.mk (Kd.S_below (by (with_reducible repeat (first | apply Kd.S_alloc | apply Kd.S_drewN | apply Kd.S_drew)); exact HO773.out) hb); have n4_ := Aside0.mk (Kd.R_below (by (with_reducible repeat (first | apply Kd.R_alloc | apply Kd.R_drewN | apply Kd.R_drew)); exact HO776.out) hb); have n5_ := Aside0.mk (blk_below (g := gb770) (o := .cells #[.slice Ao12 t759.length co12, .slice Ao14 t762.length co14, .slice Ao15 t765.length co15, .int .i64 t768, .int .i64 t769] 64 (0, 0)) (by (with_reducible repeat (first | refine blk_drewN ?_ _ | refine blk_drew ?_ | refine blk_alloc ?_ _)); exact BK770.out) hb); have n6_ := Aside0.mk (below_step (by repeat (first | (with_reducible first | exact HB.out | apply below_alloc | apply pw_below_drewN | apply below_drew1 | refine below_set ?_ GE770.out) | exact HB.out)) hb); clear HO761; clear HO764; clear HO767; clear HO773; clear HO776; clear BK770; clear HB; have HO761 := n0_; have HO764 := n1_; have HO767 := n2_; have HO773 := n3_; have HO776 := n4_; have BK770 := n5_; have HB := n6_; clear n0_ n1_ n2_ n3_ n4_ n5_ n6_; (try clear hb); (try clear hb2); (try clear hk); (try clear hi); have hcz30_0 : w29.cell? ⟨gb770, 0, none⟩ = some (.slice Ao12 t759.length co12) := (blk_cell BK770.out 0).trans rfl; have hcz30_1 : w29.cell? ⟨gb770, 1, none⟩ = some (.slice Ao14 t762.length co14) := (blk_cell BK770.out 1).trans rfl; have hcz30_2 : w29.cell? ⟨gb770, 2, none⟩ = some (.slice Ao15 t765.length co15) := (blk_cell BK770.out 2).trans rfl; have hcz30_3 : w29.cell? ⟨gb770, 3, none⟩ = some (.int .i64 t768) := (blk_cell BK770.out 3).trans rfl; have hcz30_4 : w29.cell? ⟨gb770, 4, none⟩ = some (.int .i64 t769) := (blk_cell BK770.out 4).trans rfl; have hfz30_0 := blk_frozen BK770.out 0; have hfz30_1 := blk_frozen BK770.out 1; have hfz30_2 := blk_frozen BK770.out 2; have hfz30_3 := blk_frozen BK770.out 3; have hfz30_4 := blk_frozen BK770.out 4) | (go_at_call 51; (with_reducible refine (impl_IsEnough.calls k _ _ t759 _ _ t762 _ _ t765 t768 t769 _ _ t771 t782 _ ?side1 ?side2 ?side3 ?side4 ?side5 ?side6 ?side7 ?side8 A26.out).mono ?_); (case side1 => repeat (first | exact (Kd.R_reads' HO761.out).2.2 | (with_reducible refine Kd.C_alloc ?_ _) | (with_reducible refine Kd.C_drewN ?_ _) | (with_reducible refine Kd.C_drew ?_))); (case side2 => exact (Kd.R_reads' HO761.out).2.1); (case side3 => repeat (first | exact (Kd.R_reads' HO764.out).2.2 | (with_reducible refine Kd.C_alloc ?_ _) | (with_reducible refine Kd.C_drewN ?_ _) | (with_reducible refine Kd.C_drew ?_))); (case side4 => exact (Kd.R_reads' HO764.out).2.1); (case side5 => repeat (first | exact (Kd.R_reads' HO767.out).2.2 | (with_reducible refine Kd.C_alloc ?_ _) | (with_reducible refine Kd.C_drewN ?_ _) | (with_reducible refine Kd.C_drew ?_))); (case side6 => exact (Kd.R_reads' HO767.out).2.1); (case side7 => repeat (first | exact (Kd.S_reads' HO773.out).2.2 | (with_reducible refine Kd.C_alloc ?_ _) | (with_reducible refine Kd.C_drewN ?_ _) | (with_reducible refine Kd.C_drew ?_))); (case side8 => exact (Kd.S_reads' HO773.out).2.1); rintro e w31 ⟨rfl, hb⟩; have n0_ := Aside0.mk (Kd.R_below (by (with_reducible repeat (first | apply Kd.R_alloc | apply Kd.R_drewN | apply Kd.R_drew)); exact HO761.out) hb); have n1_ := Aside0.mk (Kd.R_below (by (with_reducible repeat (first | apply Kd.R_alloc | apply Kd.R_drewN | apply Kd.R_drew)); exact HO764.out) hb); have n2_ := Aside0.mk (Kd.R_below (by (with_reducible repeat (first | apply Kd.R_alloc | apply Kd.R_drewN | apply Kd.R_drew)); exact HO767.out) hb); have n3_ := Aside0.mk (Kd.S_below (by (with_reducible repeat (first | apply Kd.S_alloc | apply Kd.S_drewN | apply Kd.S_drew)); exact HO773.out) hb); have n4_ := Aside0.mk (Kd.R_below (by (with_reducible repeat (first | apply Kd.R_alloc | apply Kd.R_drewN | apply Kd.R_drew)); exact HO776.out) hb); have n5_ := Aside0.mk (blk_below (g := gb770) (o := .cells #[.slice Ao12 t759.length co12, .slice Ao14 t762.length co14, .slice Ao15 t765.length co15, .int .i64 t768, .int .i64 t769] 64 (0, 0)) (by (with_reducible repeat (first | refine blk_drewN ?_ _ | refine blk_drew ?_ | refine blk_alloc ?_ _)); exact BK770.out) hb); have n6_ := Aside0.mk (below_step (by repeat (first | (with_reducible first | exact HB.out | apply below_alloc | apply pw_below_drewN | apply below_drew1 | refine below_set ?_ GE770.out) | exact HB.out)) hb); clear HO761; clear HO764; clear HO767; clear HO773; clear HO776; clear BK770; clear HB; have HO761 := n0_; have HO764 := n1_; have HO767 := n2_; have HO773 := n3_; have HO776 := n4_; have BK770 := n5_; have HB := n6_; clear n0_ n1_ n2_ n3_ n4_ n5_ n6_; (try clear hb); (try clear hb2); (try clear hk); (try clear hi))); try go_wp2_with (first | (go_at_call 50; (with_reducible refine (impl_IsPlan.calls k _ _ t759 _ _ t762 _ _ t765 t768 t769 _ _ t771 true _ ?side1 ?side2 ?side3 ?side4 ?side5 ?side6 ?side7 ?side8 A24.out).mono ?_); (case side1 => repeat (first | exact (Kd.R_reads' HO761.out).2.2 | (with_reducible refine Kd.C_alloc ?_ _) | (with_reducible refine Kd.C_drewN ?_ _) | (with_reducible refine Kd.C_drew ?_))); (case side2 => exact (Kd.R_reads' HO761.out).2.1); (case side3 => repeat (first | exact (Kd.R_reads' HO764.out).2.2 | (with_reducible refine Kd.C_alloc ?_ _) | (with_reducible refine Kd.C_drewN ?_ _) | (with_reducible refine Kd.C_drew ?_))); (case side4 => exact (Kd.R_reads' HO764.out).2.1); (case side5 => repeat (first | exact (Kd.R_reads' HO767.out).2.2 | (with_reducible refine Kd.C_alloc ?_ _) | (with_reducible refine Kd.C_drewN ?_ _) | (with_reducible refine Kd.C_drew ?_))); (case side6 => exact (Kd.R_reads' HO767.out).2.1); (case side7 => repeat (first | exact (Kd.S_reads' HO773.out).2.2 | (with_reducible refine Kd.C_alloc ?_ _) | (with_reducible refine Kd.C_drewN ?_ _) | (with_reducible refine Kd.C_drew ?_))); (case side8 => exact (Kd.S_reads' HO773.out).2.1); rintro e w29 ⟨rfl, hb⟩; have n0_ := Aside0.mk (Kd.R_below (by (with_reducible repeat (first | apply Kd.R_alloc | apply Kd.R_drewN | apply Kd.R_drew)); exact HO761.out) hb); have n1_ := Aside0.mk (Kd.R_below (by (with_reducible repeat (first | apply Kd.R_alloc | apply Kd.R_drewN | apply Kd.R_drew)); exact HO764.out) hb); have n2_ := Aside0.mk (Kd.R_below (by (with_reducible repeat (first | apply Kd.R_alloc | apply Kd.R_drewN | apply Kd.R_drew)); exact HO767.out) hb); have n3_ := Aside0.mk (Kd.S_below (by (with_reducible repeat (first | apply Kd.S_alloc | apply Kd.S_drewN | apply Kd.S_drew)); exact HO773.out) hb); have n4_ := Aside0.mk (Kd.R_below (by (with_reducible repeat (first | apply Kd.R_alloc | apply Kd.R_drewN | apply Kd.R_drew)); exact HO776.out) hb); have n5_ := Aside0.mk (blk_below (g := gb770) (o := .cells #[.slice Ao12 t759.length co12, .slice Ao14 t762.length co14, .slice Ao15 t765.length co15, .int .i64 t768, .int .i64 t769] 64 (0, 0)) (by (with_reducible repeat (first | refine blk_drewN ?_ _ | refine blk_drew ?_ | refine blk_alloc ?_ _)); exact BK770.out) hb); have n6_ := Aside0.mk (below_step (by repeat (first | (with_reducible first | exact HB.out | apply below_alloc | apply pw_below_drewN | apply below_drew1 | refine below_set ?_ GE770.out) | exact HB.out)) hb); clear HO761; clear HO764; clear HO767; clear HO773; clear HO776; clear BK770; clear HB; have HO761 := n0_; have HO764 := n1_; have HO767 := n2_; have HO773 := n3_; have HO776 := n4_; have BK770 := n5_; have HB := n6_; clear n0_ n1_ n2_ n3_ n4_ n5_ n6_; (try clear hb); (try clear hb2); (try clear hk); (try clear hi); have hcz30_0 : w29.cell? ⟨gb770, 0, none⟩ = some (.slice Ao12 t759.length co12) := (blk_cell BK770.out 0).trans rfl; have hcz30_1 : w29.cell? ⟨gb770, 1, none⟩ = some (.slice Ao14 t762.length co14) := (blk_cell BK770.out 1).trans rfl; have hcz30_2 : w29.cell? ⟨gb770, 2, none⟩ = some (.slice Ao15 t765.length co15) := (blk_cell BK770.out 2).trans rfl; have hcz30_3 : w29.cell? ⟨gb770, 3, none⟩ = some (.int .i64 t768) := (blk_cell BK770.out 3).trans rfl; have hcz30_4 : w29.cell? ⟨gb770, 4, none⟩ = some (.int .i64 t769) := (blk_cell BK770.out 4).trans rfl; have hfz30_0 := blk_frozen BK770.out 0; have hfz30_1 := blk_frozen BK770.out 1; have hfz30_2 := blk_frozen BK770.out 2; have hfz30_3 := blk_frozen BK770.out 3; have hfz30_4 := blk_frozen BK770.out 4) | (go_at_call 51; (with_reducible refine (impl_IsEnough.calls k _ _ t759 _ _ t762 _ _ t765 t768 t769 _ _ t771 t782 _ ?side1 ?side2 ?side3 ?side4 ?side5 ?side6 ?side7 ?side8 A26.out).mono ?_); (case side1 => repeat (first | exact (Kd.R_reads' HO761.out).2.2 | (with_reducible refine Kd.C_alloc ?_ _) | (with_reducible refine Kd.C_drewN ?_ _) | (with_reducible refine Kd.C_drew ?_))); (case side2 => exact (Kd.R_reads' HO761.out).2.1); (case side3 => repeat (first | exact (Kd.R_reads' HO764.out).2.2 | (with_reducible refine Kd.C_alloc ?_ _) | (with_reducible refine Kd.C_drewN ?_ _) | (with_reducible refine Kd.C_drew ?_))); (case side4 => exact (Kd.R_reads' HO764.out).2.1); (case side5 => repeat (first | exact (Kd.R_reads' HO767.out).2.2 | (with_reducible refine Kd.C_alloc ?_ _) | (with_reducible refine Kd.C_drewN ?_ _) | (with_reducible refine Kd.C_drew ?_))); (case side6 => exact (Kd.R_reads' HO767.out).2.1); (case side7 => repeat (first | exact (Kd.S_reads' HO773.out).2.2 | (with_reducible refine Kd.C_alloc ?_ _) | (with_reducible refine Kd.C_drewN ?_ _) | (with_reducible refine Kd.C_drew ?_))); (case side8 => exact (Kd.S_reads' HO773.out).2.1); rintro e w31 ⟨rfl, hb⟩; have n0_ := Aside0.mk (Kd.R_below (by (with_reducible repeat (first | apply Kd.R_alloc | apply Kd.R_drewN | apply Kd.R_drew)); exact HO761.out) hb); have n1_ := Aside0.mk (Kd.R_below (by (with_reducible repeat (first | apply Kd.R_alloc | apply Kd.R_drewN | apply Kd.R_drew)); exact HO764.out) hb); have n2_ := Aside0.mk (Kd.R_below (by (with_reducible repeat (first | apply Kd.R_alloc | apply Kd.R_drewN | apply Kd.R_drew)); exact HO767.out) hb); have n3_ := Aside0.mk (Kd.S_below (by (with_reducible repeat (first | apply Kd.S_alloc | apply Kd.S_drewN | apply Kd.S_drew)); exact HO773.out) hb); have n4_ := Aside0.mk (Kd.R_below (by (with_reducible repeat (first | apply Kd.R_alloc | apply Kd.R_drewN | apply Kd.R_drew)); exact HO776.out) hb); have n5_ := Aside0.mk (blk_below (g := gb770) (o := .cells #[.slice Ao12 t759.length co12, .slice Ao14 t762.length co14, .slice Ao15 t765.length co15, .int .i64 t768, .int .i64 t769] 64 (0, 0)) (by (with_reducible repeat (first | refine blk_drewN ?_ _ | refine blk_drew ?_ | refine blk_alloc ?_ _)); exact BK770.out) hb); have n6_ := Aside0.mk (below_step (by repeat (first | (with_reducible first | exact HB.out | apply below_alloc | apply pw_below_drewN | apply below_drew1 | refine below_set ?_ GE770.out) | exact HB.out)) hb); clear HO761; clear HO764; clear HO767; clear HO773; clear HO776; clear BK770; clear HB; have HO761 := n0_; have HO764 := n1_; have HO767 := n2_; have HO773 := n3_; have HO776 := n4_; have BK770 := n5_; have HB := n6_; clear n0_ n1_ n2_ n3_ n4_ n5_ n6_; (try clear hb); (try clear hb2); (try clear hk); (try clear hi))))
      go_meet
      case rel => exact ⟨_, ((t780 == t782)), (by first | rfl | (simp; done) | (simp [*]; done) | (simp [Int.tdiv_eq_ediv_of_nonneg, *]; done)), H', ⟨by first | omega | exact Nat.le_refl _⟩, ⟨by (with_reducible repeat (first | apply Kd.S_alloc | apply Kd.S_drewN | apply Kd.S_drew)); exact Kd.S_mono HO773.out (fun _ hk => ⟨hk.2, ⟨hk.1.1.2, hk.1.2⟩⟩)⟩, ⟨by (with_reducible repeat (first | apply Kd.R_alloc | apply Kd.R_drewN | apply Kd.R_drew)); exact Kd.R_mono HO776.out (fun _ hk => ⟨hk.1.2, hk.2⟩)⟩, ⟨by (with_reducible repeat (first | apply Kd.R_alloc | apply Kd.R_drewN | apply Kd.R_drew)); exact HO761.out⟩, ⟨by (with_reducible repeat (first | apply Kd.R_alloc | apply Kd.R_drewN | apply Kd.R_drew)); exact Kd.R_mono HO764.out (fun _ hk => ⟨hk.2, hk.1⟩)⟩, ⟨by (with_reducible repeat (first | apply Kd.R_alloc | apply Kd.R_drewN | apply Kd.R_drew)); exact Kd.R_mono HO767.out (fun _ hk => ⟨hk.2, hk.1⟩)⟩, ⟨by (with_reducible repeat (first | refine blk_drewN ?_ _ | refine blk_drew ?_ | refine blk_alloc ?_ _)); exact BK770.out⟩, ⟨by repeat (first | (with_reducible first | exact HB.out | apply below_alloc | apply pw_below_drewN | apply below_drew1 | refine below_set ?_ GE770.out) | exact HB.out)⟩⟩
     ·replace c25 := Bool.eq_false_iff.mpr c25
      subst c25
      have H1 : (laws_FnWorn.j0 k t771 t774 t778 t779 t780 true t759 t762 t765 t768 t769) = some r := by rw [if_neg (show ¬ (false = true) by decide)] at H; exact H
      clear H
      have H := H1
      clear H1
      have H' := Aside0.mk H
      clear H
      obtain ⟨Ao32, co32, eo32⟩ := Kd.R_slice HO776.out
      subst eo32
      have hcz33_0 : w21.cell? ⟨gb770, 0, none⟩ = some (.slice Ao12 t759.length co12) := (blk_cell BK770.out 0).trans rfl
      have hcz33_1 : w21.cell? ⟨gb770, 1, none⟩ = some (.slice Ao14 t762.length co14) := (blk_cell BK770.out 1).trans rfl
      have hcz33_2 : w21.cell? ⟨gb770, 2, none⟩ = some (.slice Ao15 t765.length co15) := (blk_cell BK770.out 2).trans rfl
      have hcz33_3 : w21.cell? ⟨gb770, 3, none⟩ = some (.int .i64 t768) := (blk_cell BK770.out 3).trans rfl
      have hcz33_4 : w21.cell? ⟨gb770, 4, none⟩ = some (.int .i64 t769) := (blk_cell BK770.out 4).trans rfl
      have hfz33_0 := blk_frozen BK770.out 0
      have hfz33_1 := blk_frozen BK770.out 1
      have hfz33_2 := blk_frozen BK770.out 2
      have hfz33_3 := blk_frozen BK770.out 3
      have hfz33_4 := blk_frozen BK770.out 4
      go_wp2_with (first | (go_at_call 50; (with_reducible refine (impl_IsPlan.calls k _ _ t759 _ _ t762 _ _ t765 t768 t769 _ _ t771 false _ ?side1 ?side2 ?side3 ?side4 ?side5 ?side6 ?side7 ?side8 A24.out).mono ?_); (case side1 => repeat (first | exact (Kd.R_reads' HO761.out).2.2 | (with_reducible refine Kd.C_alloc ?_ _) | (with_reducible refine Kd.C_drewN ?_ _) | (with_reducible refine Kd.C_drew ?_))); (case side2 => exact (Kd.R_reads' HO761.out).2.1); (case side3 => repeat (first | exact (Kd.R_reads' HO764.out).2.2 | (with_reducible refine Kd.C_alloc ?_ _) | (with_reducible refine Kd.C_drewN ?_ _) | (with_reducible refine Kd.C_drew ?_))); (case side4 => exact (Kd.R_reads' HO764.out).2.1); (case side5 => repeat (first | exact (Kd.R_reads' HO767.out).2.2 | (with_reducible refine Kd.C_alloc ?_ _) | (with_reducible refine Kd.C_drewN ?_ _) | (with_reducible refine Kd.C_drew ?_))); (case side6 => exact (Kd.R_reads' HO767.out).2.1); (case side7 => repeat (first | exact (Kd.S_reads' HO773.out).2.2 | (with_reducible refine Kd.C_alloc ?_ _) | (with_reducible refine Kd.C_drewN ?_ _) | (with_reducible refine Kd.C_drew ?_))); (case side8 => exact (Kd.S_reads' HO773.out).2.1); rintro e w34 ⟨rfl, hb⟩; have n0_ := Aside0.mk (Kd.R_below (by (with_reducible repeat (first | apply Kd.R_alloc | apply Kd.R_drewN | apply Kd.R_drew)); exact HO761.out) hb); have n1_ := Aside0.mk (Kd.R_below (by (with_reducible repeat (first | apply Kd.R_alloc | apply Kd.R_drewN | apply Kd.R_drew)); exact HO764.out) hb); have n2_ := Aside0.mk (Kd.R_below (by (with_reducible repeat (first | apply Kd.R_alloc | apply Kd.R_drewN | apply Kd.R_drew)); exact HO767.out) hb); have n3_ := Aside0.mk (Kd.S_below (by (with_reducible repeat (first | apply Kd.S_alloc | apply Kd.S_drewN | apply Kd.S_drew)); exact HO773.out) hb); have n4_ := Aside0.mk (Kd.R_below (by (with_reducible repeat (first | apply Kd.R_alloc | apply Kd.R_drewN | apply Kd.R_drew)); exact HO776.out) hb); have n5_ := Aside0.mk (blk_below (g := gb770) (o := .cells #[.slice Ao12 t759.length co12, .slice Ao14 t762.length co14, .slice Ao15 t765.length co15, .int .i64 t768, .int .i64 t769] 64 (0, 0)) (by (with_reducible repeat (first | refine blk_drewN ?_ _ | refine blk_drew ?_ | refine blk_alloc ?_ _)); exact BK770.out) hb); have n6_ := Aside0.mk (below_step (by repeat (first | (with_reducible first | exact HB.out | apply below_alloc | apply pw_below_drewN | apply below_drew1 | refine below_set ?_ GE770.out) | exact HB.out)) hb); clear HO761; clear HO764; clear HO767; clear HO773; clear HO776; clear BK770; clear HB; have HO761 := n0_; have HO764 := n1_; have HO767 := n2_; have HO773 := n3_; have HO776 := n4_; have BK770 := n5_; have HB := n6_; clear n0_ n1_ n2_ n3_ n4_ n5_ n6_; (try clear hb); (try clear hb2); (try clear hk); (try clear hi)))
      repeat (go_quiet (first | (go_at_call 50; (with_reducible refine (impl_IsPlan.calls k _ _ t759 _ _ t762 _ _ t765 t768 t769 _ _ t771 false _ ?side1 ?side2 ?side3 ?side4 ?side5 ?side6 ?side7 ?side8 A24.out).mono ?_); (case side1 => repeat (first | exact (Kd.R_reads' HO761.out).2.2 | (with_reducible refine Kd.C_alloc ?_ _) | (with_reducible refine Kd.C_drewN ?_ _) | (with_reducible refine Kd.C_drew ?_))); (case side2 => exact (Kd.R_reads' HO761.out).2.1); (case side3 => repeat (first | exact (Kd.R_reads' HO764.out).2.2 | (with_reducible refine Kd.C_alloc ?_ _) | (with_reducible refine Kd.C_drewN ?_ _) | (with_reducible refine Kd.C_drew ?_))); (case side4 => exact (Kd.R_reads' HO764.out).2.1); (case side5 => repeat (first | exact (Kd.R_reads' HO767.out).2.2 | (with_reducible refine Kd.C_alloc ?_ _) | (with_reducible refine Kd.C_drewN ?_ _) | (with_reducible refine Kd.C_drew ?_))); (case side6 => exact (Kd.R_reads' HO767.out).2.1); (case side7 => repeat (first | exact (Kd.S_reads' HO773.out).2.2 | (with_reducible refine Kd.C_alloc ?_ _) | (with_reducible refine Kd.C_drewN ?_ _) | (with_reducible refine Kd.C_drew ?_))); (case side8 => exact (Kd.S_reads' HO773.out).2.1); rintro e w34 ⟨rfl, hb⟩; have n0_ := Aside0.mk (Kd.R_below (by (with_reducible repeat (first | apply Kd.R_alloc | apply Kd.R_drewN | apply Kd.R_drew)); exact HO761.out) hb); have n1_ := Aside0.mk (Kd.R_below (by (with_reducible repeat (first | apply Kd.R_alloc | apply Kd.R_drewN | apply Kd.R_drew)); exact HO764.out) hb); have n2_ := Aside0.mk (Kd.R_below (by (with_reducible repeat (first | apply Kd.R_alloc | apply Kd.R_drewN | apply Kd.R_drew)); exact HO767.out) hb); have n3_ := Aside0.mk (Kd.S_below (by (with_reducible repeat (first | apply Kd.S_alloc | apply Kd.S_drewN | apply Kd.S_drew)); exact HO773.out) hb); have n4_ := Aside0.mk (Kd.R_below (by (with_reducible repeat (first | apply Kd.R_alloc | apply Kd.R_drewN | apply Kd.R_drew)); exact HO776.out) hb); have n5_ := Aside0.mk (blk_below (g := gb770) (o := .cells #[.slice Ao12 t759.length co12, .slice Ao14 t762.length co14, .slice Ao15 t765.length co15, .int .i64 t768, .int .i64 t769] 64 (0, 0)) (by (with_reducible repeat (first | refine blk_drewN ?_ _ | refine blk_drew ?_ | refine blk_alloc ?_ _)); exact BK770.out) hb); have n6_ := Aside0.mk (below_step (by repeat (first | (with_reducible first | exact HB.out | apply below_alloc | apply pw_below_drewN | apply below_drew1 | refine below_set ?_ GE770.out) | exact HB.out)) hb); clear HO761; clear HO764; clear HO767; clear HO773; clear HO776; clear BK770; clear HB; have HO761 := n0_; have HO764 := n1_; have HO767 := n2_; have HO773 := n3_; have HO776 := n4_; have BK770 := n5_; have HB := n6_; clear n0_ n1_ n2_ n3_ n4_ n5_ n6_; (try clear hb); (try clear hb2); (try clear hk); (try clear hi))); try go_wp2_with (first | (go_at_call 50; (with_reducible refine (impl_IsPlan.calls k _ _ t759 _ _ t762 _ _ t765 t768 t769 _ _ t771 false _ ?side1 ?side2 ?side3 ?side4 ?side5 ?side6 ?side7 ?side8 A24.out).mono ?_); (case side1 => repeat (first | exact (Kd.R_reads' HO761.out).2.2 | (with_reducible refine Kd.C_alloc ?_ _) | (with_reducible refine Kd.C_drewN ?_ _) | (with_reducible refine Kd.C_drew ?_))); (case side2 => exact (Kd.R_reads' HO761.out).2.1); (case side3 => repeat (first | exact (Kd.R_reads' HO764.out).2.2 | (with_reducible refine Kd.C_alloc ?_ _) | (with_reducible refine Kd.C_drewN ?_ _) | (with_reducible refine Kd.C_drew ?_))); (case side4 => exact (Kd.R_reads' HO764.out).2.1); (case side5 => repeat (first | exact (Kd.R_reads' HO767.out).2.2 | (with_reducible refine Kd.C_alloc ?_ _) | (with_reducible refine Kd.C_drewN ?_ _) | (with_reducible refine Kd.C_drew ?_))); (case side6 => exact (Kd.R_reads' HO767.out).2.1); (case side7 => repeat (first | exact (Kd.S_reads' HO773.out).2.2 | (with_reducible refine Kd.C_alloc ?_ _) | (with_reducible refine Kd.C_drewN ?_ _) | (with_reducible refine Kd.C_drew ?_))); (case side8 => exact (Kd.S_reads' HO773.out).2.1); rintro e w34 ⟨rfl, hb⟩; have n0_ := Aside0.mk (Kd.R_below (by (with_reducible repeat (first | apply Kd.R_alloc | apply Kd.R_drewN | apply Kd.R_drew)); exact HO761.out) hb); have n1_ := Aside0.mk (Kd.R_below (by (with_reducible repeat (first | apply Kd.R_alloc | apply Kd.R_drewN | apply Kd.R_drew)); exact HO764.out) hb); have n2_ := Aside0.mk (Kd.R_below (by (with_reducible repeat (first | apply Kd.R_alloc | apply Kd.R_drewN | apply Kd.R_drew)); exact HO767.out) hb); have n3_ := Aside0.mk (Kd.S_below (by (with_reducible repeat (first | apply Kd.S_alloc | apply Kd.S_drewN | apply Kd.S_drew)); exact HO773.out) hb); have n4_ := Aside0.mk (Kd.R_below (by (with_reducible repeat (first | apply Kd.R_alloc | apply Kd.R_drewN | apply Kd.R_drew)); exact HO776.out) hb); have n5_ := Aside0.mk (blk_below (g := gb770) (o := .cells #[.slice Ao12 t759.length co12, .slice Ao14 t762.length co14, .slice Ao15 t765.length co15, .int .i64 t768, .int .i64 t769] 64 (0, 0)) (by (with_reducible repeat (first | refine blk_drewN ?_ _ | refine blk_drew ?_ | refine blk_alloc ?_ _)); exact BK770.out) hb); have n6_ := Aside0.mk (below_step (by repeat (first | (with_reducible first | exact HB.out | apply below_alloc | apply pw_below_drewN | apply below_drew1 | refine below_set ?_ GE770.out) | exact HB.out)) hb); clear HO761; clear HO764; clear HO767; clear HO773; clear HO776; clear BK770; clear HB; have HO761 := n0_; have HO764 := n1_; have HO767 := n2_; have HO773 := n3_; have HO776 := n4_; have BK770 := n5_; have HB := n6_; clear n0_ n1_ n2_ n3_ n4_ n5_ n6_; (try clear hb); (try clear hb2); (try clear hk); (try clear hi))))
      go_meet
      case rel => exact ⟨_, (true), (by first | rfl | (simp; done) | (simp [*]; done) | (simp [Int.tdiv_eq_ediv_of_nonneg, *]; done)), H', ⟨by first | omega | exact Nat.le_refl _⟩, ⟨by (with_reducible repeat (first | apply Kd.S_alloc | apply Kd.S_drewN | apply Kd.S_drew)); exact Kd.S_mono HO773.out (fun _ hk => ⟨hk.2, ⟨hk.1.1.2, hk.1.2⟩⟩)⟩, ⟨by (with_reducible repeat (first | apply Kd.R_alloc | apply Kd.R_drewN | apply Kd.R_drew)); exact Kd.R_mono HO776.out (fun _ hk => ⟨hk.1.2, hk.2⟩)⟩, ⟨by (with_reducible repeat (first | apply Kd.R_alloc | apply Kd.R_drewN | apply Kd.R_drew)); exact HO761.out⟩, ⟨by (with_reducible repeat (first | apply Kd.R_alloc | apply Kd.R_drewN | apply Kd.R_drew)); exact Kd.R_mono HO764.out (fun _ hk => ⟨hk.2, hk.1⟩)⟩, ⟨by (with_reducible repeat (first | apply Kd.R_alloc | apply Kd.R_drewN | apply Kd.R_drew)); exact Kd.R_mono HO767.out (fun _ hk => ⟨hk.2, hk.1⟩)⟩, ⟨by (with_reducible repeat (first | refine blk_drewN ?_ _ | refine blk_drew ?_ | refine blk_alloc ?_ _)); exact BK770.out⟩, ⟨by repeat (first | (with_reducible first | exact HB.out | apply below_alloc | apply pw_below_drewN | apply below_drew1 | refine below_set ?_ GE770.out) | exact HB.out)⟩⟩
    ·rw [if_neg c23] at H
     have c23b0 : ((t774.length : Int) == (t759.length : Int)) = false := beq_eq_false_iff_ne.mpr c23
     have c23b1 : ((t774.length : Int) != (t759.length : Int)) = true := bne_iff_ne.mpr c23
     have c23b2 : (t774.length == t759.length) = false := by first | simpa using c23 | (simp at c23 ⊢; omega)
     (first | rw [c23b0] | (simp only [i64_w, i32_w]; rw [c23b0]) | skip)
     have H' := Aside0.mk H
     clear H
     obtain ⟨Ao35, co35, eo35⟩ := Kd.R_slice HO776.out
     subst eo35
     have hcz36_0 : w21.cell? ⟨gb770, 0, none⟩ = some (.slice Ao12 t759.length co12) := (blk_cell BK770.out 0).trans rfl
     have hcz36_1 : w21.cell? ⟨gb770, 1, none⟩ = some (.slice Ao14 t762.length co14) := (blk_cell BK770.out 1).trans rfl
     have hcz36_2 : w21.cell? ⟨gb770, 2, none⟩ = some (.slice Ao15 t765.length co15) := (blk_cell BK770.out 2).trans rfl
     have hcz36_3 : w21.cell? ⟨gb770, 3, none⟩ = some (.int .i64 t768) := (blk_cell BK770.out 3).trans rfl
     have hcz36_4 : w21.cell? ⟨gb770, 4, none⟩ = some (.int .i64 t769) := (blk_cell BK770.out 4).trans rfl
     have hfz36_0 := blk_frozen BK770.out 0
     have hfz36_1 := blk_frozen BK770.out 1
     have hfz36_2 := blk_frozen BK770.out 2
     have hfz36_3 := blk_frozen BK770.out 3
     have hfz36_4 := blk_frozen BK770.out 4
     go_wp2
     repeat (go_quiet (fail); try go_wp2)
     go_meet
     case rel => exact ⟨_, (true), (by first | rfl | (simp; done) | (simp [*]; done) | (simp [Int.tdiv_eq_ediv_of_nonneg, *]; done)), H', ⟨by first | omega | exact Nat.le_refl _⟩, ⟨by (with_reducible repeat (first | apply Kd.S_alloc | apply Kd.S_drewN | apply Kd.S_drew)); exact Kd.S_mono HO773.out (fun _ hk => ⟨hk.2, ⟨hk.1.1.2, hk.1.2⟩⟩)⟩, ⟨by (with_reducible repeat (first | apply Kd.R_alloc | apply Kd.R_drewN | apply Kd.R_drew)); exact Kd.R_mono HO776.out (fun _ hk => ⟨hk.1.2, hk.2⟩)⟩, ⟨by (with_reducible repeat (first | apply Kd.R_alloc | apply Kd.R_drewN | apply Kd.R_drew)); exact HO761.out⟩, ⟨by (with_reducible repeat (first | apply Kd.R_alloc | apply Kd.R_drewN | apply Kd.R_drew)); exact Kd.R_mono HO764.out (fun _ hk => ⟨hk.2, hk.1⟩)⟩, ⟨by (with_reducible repeat (first | apply Kd.R_alloc | apply Kd.R_drewN | apply Kd.R_drew)); exact Kd.R_mono HO767.out (fun _ hk => ⟨hk.2, hk.1⟩)⟩, ⟨by (with_reducible repeat (first | refine blk_drewN ?_ _ | refine blk_drew ?_ | refine blk_alloc ?_ _)); exact BK770.out⟩, ⟨by repeat (first | (with_reducible first | exact HB.out | apply below_alloc | apply pw_below_drewN | apply below_drew1 | refine below_set ?_ GE770.out) | exact HB.out)⟩⟩
   ·replace c22 := Bool.eq_false_iff.mpr c22
    subst c22
    have H1 : (laws_FnWorn.j0 k t771 t774 t778 t779 t780 true t759 t762 t765 t768 t769) = some r := by rw [if_neg (show ¬ (false = true) by decide)] at H; exact H
    clear H
    have H := H1
    clear H1
    have H' := Aside0.mk H
    clear H
    go_wp2
    repeat (go_quiet (fail); try go_wp2)
    go_meet
    case rel => exact ⟨_, (true), (by first | rfl | (simp; done) | (simp [*]; done) | (simp [Int.tdiv_eq_ediv_of_nonneg, *]; done)), H', ⟨by first | omega | exact Nat.le_refl _⟩, ⟨by (with_reducible repeat (first | apply Kd.S_alloc | apply Kd.S_drewN | apply Kd.S_drew)); exact Kd.S_mono HO773.out (fun _ hk => ⟨hk.2, ⟨hk.1.1.2, hk.1.2⟩⟩)⟩, ⟨by (with_reducible repeat (first | apply Kd.R_alloc | apply Kd.R_drewN | apply Kd.R_drew)); exact Kd.R_mono HO776.out (fun _ hk => ⟨hk.1.2, hk.2⟩)⟩, ⟨by (with_reducible repeat (first | apply Kd.R_alloc | apply Kd.R_drewN | apply Kd.R_drew)); exact HO761.out⟩, ⟨by (with_reducible repeat (first | apply Kd.R_alloc | apply Kd.R_drewN | apply Kd.R_drew)); exact Kd.R_mono HO764.out (fun _ hk => ⟨hk.2, hk.1⟩)⟩, ⟨by (with_reducible repeat (first | apply Kd.R_alloc | apply Kd.R_drewN | apply Kd.R_drew)); exact Kd.R_mono HO767.out (fun _ hk => ⟨hk.2, hk.1⟩)⟩, ⟨by (with_reducible repeat (first | refine blk_drewN ?_ _ | refine blk_drew ?_ | refine blk_alloc ?_ _)); exact BK770.out⟩, ⟨by repeat (first | (with_reducible first | exact HB.out | apply below_alloc | apply pw_below_drewN | apply below_drew1 | refine below_set ?_ GE770.out) | exact HB.out)⟩⟩
  case rest =>
   clear HC9
   try clear c1
   try clear c2
   try clear p2
   try clear c4
   try clear c8
   try clear c22
   try clear c23
   try clear c23b0
   try clear c23b1
   try clear c23b2
   try clear c25
   try clear hcz13_0
   try clear hcz13_1
   try clear hcz13_2
   try clear hcz13_3
   try clear hcz13_4
   try clear hcz17_0
   try clear hcz17_1
   try clear hcz17_2
   try clear hcz17_3
   try clear hcz17_4
   try clear hcz20_0
   try clear hcz20_1
   try clear hcz20_2
   try clear hcz20_3
   try clear hcz20_4
   try clear hcz28_0
   try clear hcz28_1
   try clear hcz28_2
   try clear hcz28_3
   try clear hcz28_4
   try clear hcz30_0
   try clear hcz30_1
   try clear hcz30_2
   try clear hcz30_3
   try clear hcz30_4
   try clear hcz33_0
   try clear hcz33_1
   try clear hcz33_2
   try clear hcz33_3
   try clear hcz33_4
   try clear hcz36_0
   try clear hcz36_1
   try clear hcz36_2
   try clear hcz36_3
   try clear hcz36_4
   try clear hfz13_0
   try clear hfz13_1
   try clear hfz13_2
   try clear hfz13_3
   try clear hfz13_4
   try clear hfz17_0
   try clear hfz17_1
   try clear hfz17_2
   try clear hfz17_3
   try clear hfz17_4
   try clear hfz20_0
   try clear hfz20_1
   try clear hfz20_2
   try clear hfz20_3
   try clear hfz20_4
   try clear hfz28_0
   try clear hfz28_1
   try clear hfz28_2
   try clear hfz28_3
   try clear hfz28_4
   try clear hfz30_0
   try clear hfz30_1
   try clear hfz30_2
   try clear hfz30_3
   try clear hfz30_4
   try clear hfz33_0
   try clear hfz33_1
   try clear hfz33_2
   try clear hfz33_3
   try clear hfz33_4
   try clear hfz36_0
   try clear hfz36_1
   try clear hfz36_2
   try clear hfz36_3
   try clear hfz36_4
   obtain ⟨kq, x62_8, rfl, HA, HJ8, HO_6, HO_7, HO_771000, HO_771001, HO_771002, BK770, HB⟩ := hcut
   cases kq with
   | zero => exact absurd HA.out (by simp [laws_FnWorn.j0])
   | succ kj8 =>
    have H := HA.out
    clear HA
    simp only [laws_FnWorn.j0] at H
    by_cases c37 : x62_8 = true
    ·subst c37
     have H1 : (some false) = some r := by rw [if_pos rfl] at H; exact H
     clear H
     have H := H1
     clear H1
     obtain rfl := Option.some.inj H
     go_wp2
     repeat (go_quiet (fail); try go_wp2)
     go_ret
     exact ⟨by first | rfl | (simp [errW_none, errW_some] <;> rfl) | (simp [*, errW_none, errW_some] <;> rfl) | (simp [Int.tdiv_eq_ediv_of_nonneg, *]; done), by repeat (first | (with_reducible first | exact HB.out | apply below_alloc | apply pw_below_drewN | apply below_drew1 | refine below_set ?_ GE770.out) | exact HB.out)⟩
    ·replace c37 := Bool.eq_false_iff.mpr c37
     subst c37
     have H1 : (laws_FnWorn.l0 kj8 t771 t774 t778 t779 t780 0 t759 t762 t765 t768 t769) = some r := by rw [if_neg (show ¬ (false = true) by decide)] at H; exact H
     clear H
     have H := H1
     clear H1
     have H' := Aside0.mk H
     clear H
     go_wp2
     repeat (go_quiet (fail); try go_wp2)
     go_loopg [12] kj8 (fun kq v12 w' => ∃ (x12_2 : Int), v12 = .int .i64 x12_2 ∧ Aside0 (laws_FnWorn.l0 kq t771 t774 t778 t779 t780 x12_2 t759 t762 t765 t768 t769 = some r) ∧ Aside0 (kq ≤ kj8) ∧ Aside0 (Kd.S k94 94 w' w.heap.size (fun k_ => some k_ ≠ (v775 : Value).ownBlock ∧ some k_ ≠ ((.slice Ao14 t762.length co14) : Value).ownBlock ∧ some k_ ≠ ((.slice Ao15 t765.length co15) : Value).ownBlock) (.slice Ao18 t771.length co18) t771) ∧ Aside0 (Kd.R (Kd.int .i64) 2 w' w.heap.size (fun k_ => some k_ ≠ ((.slice Ao14 t762.length co14) : Value).ownBlock ∧ some k_ ≠ ((.slice Ao15 t765.length co15) : Value).ownBlock) v775 t774) ∧ Aside0 (Kd.R k79 79 w' w.heap.size (fun _ => True) (.slice Ao12 t759.length co12) t759) ∧ Aside0 (Kd.R (Kd.int .i64) 2 w' w.heap.size (fun k_ => some k_ ≠ (v775 : Value).ownBlock ∧ some k_ ≠ ((.slice Ao15 t765.length co15) : Value).ownBlock) (.slice Ao14 t762.length co14) t762) ∧ Aside0 (Kd.R (Kd.int .i64) 2 w' w.heap.size (fun k_ => some k_ ≠ (v775 : Value).ownBlock ∧ some k_ ≠ ((.slice Ao14 t762.length co14) : Value).ownBlock) (.slice Ao15 t765.length co15) t765) ∧ Aside0 (w'.heap[gb770]? = some (.cells #[(.slice Ao12 t759.length co12), (.slice Ao14 t762.length co14), (.slice Ao15 t765.length co15), .int .i64 t768, .int .i64 t769] 64 (0, 0))) ∧ Aside0 (Below w.heap.size w w'))
     case atStart => exact ⟨(0), (by first | rfl | (simp; done) | (simp [*]; done) | (simp [Int.tdiv_eq_ediv_of_nonneg, *]; done)), H', ⟨Nat.le_refl _⟩, ⟨by (with_reducible repeat (first | apply Kd.S_alloc | apply Kd.S_drewN | apply Kd.S_drew)); exact HO_6.out⟩, ⟨by (with_reducible repeat (first | apply Kd.R_alloc | apply Kd.R_drewN | apply Kd.R_drew)); exact HO_7.out⟩, ⟨by (with_reducible repeat (first | apply Kd.R_alloc | apply Kd.R_drewN | apply Kd.R_drew)); exact HO_771000.out⟩, ⟨by (with_reducible repeat (first | apply Kd.R_alloc | apply Kd.R_drewN | apply Kd.R_drew)); exact HO_771001.out⟩, ⟨by (with_reducible repeat (first | apply Kd.R_alloc | apply Kd.R_drewN | apply Kd.R_drew)); exact HO_771002.out⟩, ⟨by (with_reducible repeat (first | refine blk_drewN ?_ _ | refine blk_drew ?_ | refine blk_alloc ?_ _)); exact BK770.out⟩, ⟨by repeat (first | (with_reducible first | exact HB.out | apply below_alloc | apply pw_below_drewN | apply below_drew1 | refine below_set ?_ GE770.out) | exact HB.out)⟩⟩
     case round =>
      clear H'
      try clear c1
      try clear c2
      try clear p2
      try clear c3
      try clear c4
      try clear c8
      try clear c22
      try clear c23
      try clear c23b0
      try clear c23b1
      try clear c23b2
      try clear c25
      try clear c37
      try clear hcz13_0
      try clear hcz13_1
      try clear hcz13_2
      try clear hcz13_3
      try clear hcz13_4
      try clear hcz17_0
      try clear hcz17_1
      try clear hcz17_2
      try clear hcz17_3
      try clear hcz17_4
      try clear hcz20_0
      try clear hcz20_1
      try clear hcz20_2
      try clear hcz20_3
      try clear hcz20_4
      try clear hcz28_0
      try clear hcz28_1
      try clear hcz28_2
      try clear hcz28_3
      try clear hcz28_4
      try clear hcz30_0
      try clear hcz30_1
      try clear hcz30_2
      try clear hcz30_3
      try clear hcz30_4
      try clear hcz33_0
      try clear hcz33_1
      try clear hcz33_2
      try clear hcz33_3
      try clear hcz33_4
      try clear hcz36_0
      try clear hcz36_1
      try clear hcz36_2
      try clear hcz36_3
      try clear hcz36_4
      try clear hfz13_0
      try clear hfz13_1
      try clear hfz13_2
      try clear hfz13_3
      try clear hfz13_4
      try clear hfz17_0
      try clear hfz17_1
      try clear hfz17_2
      try clear hfz17_3
      try clear hfz17_4
      try clear hfz20_0
      try clear hfz20_1
      try clear hfz20_2
      try clear hfz20_3
      try clear hfz20_4
      try clear hfz28_0
      try clear hfz28_1
      try clear hfz28_2
      try clear hfz28_3
      try clear hfz28_4
      try clear hfz30_0
      try clear hfz30_1
      try clear hfz30_2
      try clear hfz30_3
      try clear hfz30_4
      try clear hfz33_0
      try clear hfz33_1
      try clear hfz33_2
      try clear hfz33_3
      try clear hfz33_4
      try clear hfz36_0
      try clear hfz36_1
      try clear hfz36_2
      try clear hfz36_3
      try clear hfz36_4
      try clear p2
      obtain ⟨x12_2, rfl, HA, HK2, HO_6, HO_7, HO_771000, HO_771001, HO_771002, BK770, HB⟩ := hrel
      cases gk with
      | zero => exact absurd HA.out (by simp [laws_FnWorn.l0])
      | succ k2 =>
       have H := HA.out
       clear HA
       simp only [laws_FnWorn.l0] at H
       by_cases c38 : x12_2 < (t774.length : Int)
       ·rw [if_pos c38] at H
        have c38b0 : decide (x12_2 < (t774.length : Int)) = true := decide_eq_true c38
        clear c38
        by_cases c39 : 0 ≤ x12_2
        ·rw [if_pos c39] at H
         have c39b0 : decide (0 ≤ x12_2) = true := decide_eq_true c39
         clear c39
         by_cases c40 : (rd t774 x12_2) = 0
         ·rw [if_pos c40] at H
          have c40b0 : ((rd t774 x12_2) == 0) = true := beq_iff_eq.mpr c40
          have c40b1 : ((rd t774 x12_2) != 0) = false := bne_eq_false_iff_eq.mpr c40
          clear c40
          have H' := Aside0.mk H
          clear H
          obtain ⟨Ao41, co41, eo41⟩ := Kd.R_slice HO_7.out
          subst eo41
          have p783 : 0 ≤ (x12_2 : Int) := of_decide_eq_true (by assumption)
          have q783 : x12_2 < (t774.length : Int) := of_decide_eq_true (by assumption)
          obtain ⟨ad783, e783, hx783_0⟩ := Kd.at_int (Kd.R_reads' HO_7.out).2.2 x12_2 p783 q783
          cases e783
          replace p783 := eq_true p783
          replace q783 := eq_true q783
          go_wp2
          repeat (go_quiet (fail); try go_wp2)
          go_roundg k2
          case measure => have := HJ8.out; have := HK2.out; omega
          case rel => exact ⟨(wrap64 (x12_2 + 1)), (by first | rfl | (simp; done) | (simp [*]; done) | (simp [Int.tdiv_eq_ediv_of_nonneg, *]; done)), H', ⟨by have := HJ8.out; have := HK2.out; omega⟩, ⟨by (with_reducible repeat (first | apply Kd.S_alloc | apply Kd.S_drewN | apply Kd.S_drew)); exact HO_6.out⟩, ⟨by (with_reducible repeat (first | apply Kd.R_alloc | apply Kd.R_drewN | apply Kd.R_drew)); exact HO_7.out⟩, ⟨by (with_reducible repeat (first | apply Kd.R_alloc | apply Kd.R_drewN | apply Kd.R_drew)); exact HO_771000.out⟩, ⟨by (with_reducible repeat (first | apply Kd.R_alloc | apply Kd.R_drewN | apply Kd.R_drew)); exact HO_771001.out⟩, ⟨by (with_reducible repeat (first | apply Kd.R_alloc | apply Kd.R_drewN | apply Kd.R_drew)); exact HO_771002.out⟩, ⟨by (with_reducible repeat (first | refine blk_drewN ?_ _ | refine blk_drew ?_ | refine blk_alloc ?_ _)); exact BK770.out⟩, ⟨by repeat (first | (with_reducible first | exact HB.out | apply below_alloc | apply pw_below_drewN | apply below_drew1 | refine below_set ?_ GE770.out) | exact HB.out)⟩⟩
         ·rw [if_neg c40] at H
          have c40b0 : ((rd t774 x12_2) == 0) = false := beq_eq_false_iff_ne.mpr c40
          have c40b1 : ((rd t774 x12_2) != 0) = true := bne_iff_ne.mpr c40
          obtain rfl := Option.some.inj H
          obtain ⟨Ao42, co42, eo42⟩ := Kd.R_slice HO_7.out
          subst eo42
          have p783 : 0 ≤ (x12_2 : Int) := of_decide_eq_true (by assumption)
          have q783 : x12_2 < (t774.length : Int) := of_decide_eq_true (by assumption)
          obtain ⟨ad783, e783, hx783_0⟩ := Kd.at_int (Kd.R_reads' HO_7.out).2.2 x12_2 p783 q783
          cases e783
          replace p783 := eq_true p783
          replace q783 := eq_true q783
          go_wp2
          repeat (go_quiet (fail); try go_wp2)
          go_ret
          exact ⟨by first | rfl | (simp [errW_none, errW_some] <;> rfl) | (simp [*, errW_none, errW_some] <;> rfl) | (simp [Int.tdiv_eq_ediv_of_nonneg, *]; done), by repeat (first | (with_reducible first | exact HB.out | apply below_alloc | apply pw_below_drewN | apply below_drew1 | refine below_set ?_ GE770.out) | exact HB.out)⟩
        ·rw [if_neg c39] at H
         exact absurd H (by simp)
       ·rw [if_neg c38] at H
        have c38b0 : decide (x12_2 < (t774.length : Int)) = false := decide_eq_false c38
        clear c38
        have H' := Aside0.mk H
        clear H
        obtain ⟨Ao43, co43, eo43⟩ := Kd.R_slice HO_7.out
        subst eo43
        go_wp2
        repeat (go_quiet (fail); try go_wp2)
        go_loopg [7, 13, 14] k2 (fun kq v7 v13 v14 w' => ∃ (x7_3 : List Int) (x13_3 : Bool) (x14_3 : Int), v13 = .bool x13_3 ∧ v14 = .int .i64 x14_3 ∧ Aside0 (laws_FnWorn.l1 kq t771 x7_3 t778 t779 t780 x13_3 x14_3 t759 t762 t765 t768 t769 = some r) ∧ Aside0 (kq ≤ k2) ∧ Aside0 (Kd.S k94 94 w' w.heap.size (fun k_ => some k_ ≠ (v7 : Value).ownBlock ∧ some k_ ≠ ((.slice Ao14 t762.length co14) : Value).ownBlock ∧ some k_ ≠ ((.slice Ao15 t765.length co15) : Value).ownBlock) (.slice Ao18 t771.length co18) t771) ∧ Aside0 (Kd.R (Kd.int .i64) 2 w' w.heap.size (fun k_ => some k_ ≠ ((.slice Ao14 t762.length co14) : Value).ownBlock ∧ some k_ ≠ ((.slice Ao15 t765.length co15) : Value).ownBlock) v7 x7_3) ∧ Aside0 (Kd.R k79 79 w' w.heap.size (fun _ => True) (.slice Ao12 t759.length co12) t759) ∧ Aside0 (Kd.R (Kd.int .i64) 2 w' w.heap.size (fun k_ => some k_ ≠ (v7 : Value).ownBlock ∧ some k_ ≠ ((.slice Ao15 t765.length co15) : Value).ownBlock) (.slice Ao14 t762.length co14) t762) ∧ Aside0 (Kd.R (Kd.int .i64) 2 w' w.heap.size (fun k_ => some k_ ≠ (v7 : Value).ownBlock ∧ some k_ ≠ ((.slice Ao14 t762.length co14) : Value).ownBlock) (.slice Ao15 t765.length co15) t765) ∧ Aside0 (w'.heap[gb770]? = some (.cells #[(.slice Ao12 t759.length co12), (.slice Ao14 t762.length co14), (.slice Ao15 t765.length co15), .int .i64 t768, .int .i64 t769] 64 (0, 0))) ∧ Aside0 (Below w.heap.size w w'))
        case atStart => exact ⟨(t774), (false), (0), (by first | rfl | (simp; done) | (simp [*]; done) | (simp [Int.tdiv_eq_ediv_of_nonneg, *]; done)), (by first | rfl | (simp; done) | (simp [*]; done) | (simp [Int.tdiv_eq_ediv_of_nonneg, *]; done)), H', ⟨Nat.le_refl _⟩, ⟨by (with_reducible repeat (first | apply Kd.S_alloc | apply Kd.S_drewN | apply Kd.S_drew)); exact HO_6.out⟩, ⟨by (with_reducible repeat (first | apply Kd.R_alloc | apply Kd.R_drewN | apply Kd.R_drew)); exact HO_7.out⟩, ⟨by (with_reducible repeat (first | apply Kd.R_alloc | apply Kd.R_drewN | apply Kd.R_drew)); exact HO_771000.out⟩, ⟨by (with_reducible repeat (first | apply Kd.R_alloc | apply Kd.R_drewN | apply Kd.R_drew)); exact HO_771001.out⟩, ⟨by (with_reducible repeat (first | apply Kd.R_alloc | apply Kd.R_drewN | apply Kd.R_drew)); exact HO_771002.out⟩, ⟨by (with_reducible repeat (first | refine blk_drewN ?_ _ | refine blk_drew ?_ | refine blk_alloc ?_ _)); exact BK770.out⟩, ⟨by repeat (first | (with_reducible first | exact HB.out | apply below_alloc | apply pw_below_drewN | apply below_drew1 | refine below_set ?_ GE770.out) | exact HB.out)⟩⟩
        case round =>
         clear H'
         try clear c1
         try clear c2
         try clear p2
         try clear c3
         try clear c4
         try clear p6
         try clear p7
         try clear q7
         try clear hx7
         try clear c8
         try clear c22
         try clear c23
         try clear c23b0
         try clear c23b1
         try clear c23b2
         try clear c25
         try clear c37
         try clear c38
         try clear c38b0
         try clear c39
         try clear c39b0
         try clear c40
         try clear c40b0
         try clear c40b1
         try clear hcz13_0
         try clear hcz13_1
         try clear hcz13_2
         try clear hcz13_3
         try clear hcz13_4
         try clear hcz17_0
         try clear hcz17_1
         try clear hcz17_2
         try clear hcz17_3
         try clear hcz17_4
         try clear hcz20_0
         try clear hcz20_1
         try clear hcz20_2
         try clear hcz20_3
         try clear hcz20_4
         try clear hcz28_0
         try clear hcz28_1
         try clear hcz28_2
         try clear hcz28_3
         try clear hcz28_4
         try clear hcz30_0
         try clear hcz30_1
         try clear hcz30_2
         try clear hcz30_3
         try clear hcz30_4
         try clear hcz33_0
         try clear hcz33_1
         try clear hcz33_2
         try clear hcz33_3
         try clear hcz33_4
         try clear hcz36_0
         try clear hcz36_1
         try clear hcz36_2
         try clear hcz36_3
         try clear hcz36_4
         try clear hfz13_0
         try clear hfz13_1
         try clear hfz13_2
         try clear hfz13_3
         try clear hfz13_4
         try clear hfz17_0
         try clear hfz17_1
         try clear hfz17_2
         try clear hfz17_3
         try clear hfz17_4
         try clear hfz20_0
         try clear hfz20_1
         try clear hfz20_2
         try clear hfz20_3
         try clear hfz20_4
         try clear hfz28_0
         try clear hfz28_1
         try clear hfz28_2
         try clear hfz28_3
         try clear hfz28_4
         try clear hfz30_0
         try clear hfz30_1
         try clear hfz30_2
         try clear hfz30_3
         try clear hfz30_4
         try clear hfz33_0
         try clear hfz33_1
         try clear hfz33_2
         try clear hfz33_3
         try clear hfz33_4
         try clear hfz36_0
         try clear hfz36_1
         try clear hfz36_2
         try clear hfz36_3
         try clear hfz36_4
         try clear hx783_0
         try clear p2
         try clear p783
         try clear q783
         obtain ⟨x7_3, x13_3, x14_3, rfl, rfl, HA, HK3, HO_6, HO_7, HO_771000, HO_771001, HO_771002, BK770, HB⟩ := hrel
         cases gk with
         | zero => exact absurd HA.out (by simp [laws_FnWorn.l1])
         | succ k3 =>
          have H := HA.out
          clear HA
          simp only [laws_FnWorn.l1] at H
          by_cases c44 : x14_3 < (t762.length : Int)
          ·rw [if_pos c44] at H
           have c44b0 : decide (x14_3 < (t762.length : Int)) = true := decide_eq_true c44
           clear c44
           replace H := Option.bind_eq_some_iff.mp H
           obtain ⟨⟨t784, t787⟩, A450, H⟩ := H
           replace H : (if t787 = true then (laws_FnWorn.j3 k3 t771 x7_3 t778 t779 t780 x13_3 x14_3 t784 ((t784.length : Int) != (t759.length : Int)) t759 t762 t765 t768 t769) else (laws_FnWorn.j3 k3 t771 x7_3 t778 t779 t780 x13_3 x14_3 t784 true t759 t762 t765 t768 t769)) = some r := H
           have A45 := Aside0.mk A450
           clear A450
           have HC46 := Aside0.mk H
           clear H
           have hcz47_0 : wr.cell? ⟨gb770, 0, none⟩ = some (.slice Ao12 t759.length co12) := (blk_cell BK770.out 0).trans rfl
           have hcz47_1 : wr.cell? ⟨gb770, 1, none⟩ = some (.slice Ao14 t762.length co14) := (blk_cell BK770.out 1).trans rfl
           have hcz47_2 : wr.cell? ⟨gb770, 2, none⟩ = some (.slice Ao15 t765.length co15) := (blk_cell BK770.out 2).trans rfl
           have hcz47_3 : wr.cell? ⟨gb770, 3, none⟩ = some (.int .i64 t768) := (blk_cell BK770.out 3).trans rfl
           have hcz47_4 : wr.cell? ⟨gb770, 4, none⟩ = some (.int .i64 t769) := (blk_cell BK770.out 4).trans rfl
           have hfz47_0 := blk_frozen BK770.out 0
           have hfz47_1 := blk_frozen BK770.out 1
           have hfz47_2 := blk_frozen BK770.out 2
           have hfz47_3 := blk_frozen BK770.out 3
           have hfz47_4 := blk_frozen BK770.out 4
           go_upto_region 19 with (first | (go_at_call 48; (with_reducible refine (impl_WornAt.calls k3 _ _ t759 _ _ t762 _ _ t765 t768 t769 _ _ t771 (wrap64 (x14_3 + 1)) t784 t787 _ ?side1 ?side2 ?side3 ?side4 ?side5 ?side6 ?side7 ?side8 A45.out).mono ?_); (case side1 => repeat (first | exact (Kd.R_reads' HO_771000.out).2.2 | (with_reducible refine Kd.C_alloc ?_ _) | (with_reducible refine Kd.C_drewN ?_ _) | (with_reducible refine Kd.C_drew ?_))); (case side2 => exact (Kd.R_reads' HO_771000.out).2.1); (case side3 => repeat (first | exact (Kd.R_reads' HO_771001.out).2.2 | (with_reducible refine Kd.C_alloc ?_ _) | (with_reducible refine Kd.C_drewN ?_ _) | (with_reducible refine Kd.C_drew ?_))); (case side4 => exact (Kd.R_reads' HO_771001.out).2.1); (case side5 => repeat (first | exact (Kd.R_reads' HO_771002.out).2.2 | (with_reducible refine Kd.C_alloc ?_ _) | (with_reducible refine Kd.C_drewN ?_ _) | (with_reducible refine Kd.C_drew ?_))); (case side6 => exact (Kd.R_reads' HO_771002.out).2.1); (case side7 => repeat (first | exact (Kd.S_reads' HO_6.out).2.2 | (with_reducible refine Kd.C_alloc ?_ _) | (with_reducible refine Kd.C_drewN ?_ _) | (with_reducible refine Kd.C_drew ?_))); (case side8 => exact (Kd.S_reads' HO_6.out).2.1); rintro e w48 ⟨v785, rfl, ho0, hb⟩; have n0_ := Aside0.mk (Kd.S_elder' (by (with_reducible repeat (first | apply Kd.S_alloc | apply Kd.S_drewN | apply Kd.S_drew)); exact HO_6.out) (Kd.R_base ho0) hb); have n1_ := Aside0.mk (Kd.R_elder' (by (with_reducible repeat (first | apply Kd.R_alloc | apply Kd.R_drewN | apply Kd.R_drew)); exact HO_7.out) (Kd.R_base ho0) hb); have n2_ := Aside0.mk (Kd.R_below (by (with_reducible repeat (first | apply Kd.R_alloc | apply Kd.R_drewN | apply Kd.R_drew)); exact HO_771000.out) hb); have n3_ := Aside0.mk (Kd.R_elder' (by (with_reducible repeat (first | apply Kd.R_alloc | apply Kd.R_drewN | apply Kd.R_drew)); exact HO_771001.out) (Kd.R_base ho0) hb); have n4_ := Aside0.mk (Kd.R_elder' (by (with_reducible repeat (first | apply Kd.R_alloc | apply Kd.R_drewN | apply Kd.R_drew)); exact HO_771002.out) (Kd.R_base ho0) hb); have n5_ := Aside0.mk (Kd.R_lower (Kd.R_new' (Kd.R_new' (Kd.R_new' ho0 (Kd.R_lt (by (with_reducible repeat (first | apply Kd.R_alloc | apply Kd.R_drewN | apply Kd.R_drew)); exact HO_7.out))) (Kd.R_lt (by (with_reducible repeat (first | apply Kd.R_alloc | apply Kd.R_drewN | apply Kd.R_drew)); exact HO_771001.out))) (Kd.R_lt (by (with_reducible repeat (first | apply Kd.R_alloc | apply Kd.R_drewN | apply Kd.R_drew)); exact HO_771002.out))) (below_size (by repeat (first | (with_reducible first | exact HB.out | apply below_alloc | apply pw_below_drewN | apply below_drew1 | refine below_set ?_ GE770.out) | exact HB.out)))); have n6_ := Aside0.mk (blk_below (g := gb770) (o := .cells #[.slice Ao12 t759.length co12, .slice Ao14 t762.length co14, .slice Ao15 t765.length co15, .int .i64 t768, .int .i64 t769] 64 (0, 0)) (by (with_reducible repeat (first | refine blk_drewN ?_ _ | refine blk_drew ?_ | refine blk_alloc ?_ _)); exact BK770.out) hb); have n7_ := Aside0.mk (below_step (by repeat (first | (with_reducible first | exact HB.out | apply below_alloc | apply pw_below_drewN | apply below_drew1 | refine below_set ?_ GE770.out) | exact HB.out)) hb); clear HO_6; clear HO_7; clear HO_771000; clear HO_771001; clear HO_771002; clear BK770; clear HB; have HO_6 := n0_; have HO_7 := n1_; have HO_771000 := n2_; have HO_771001 := n3_; have HO_771002 := n4_; have HO786 := n5_; have BK770 := n6_; have HB := n7_; clear n0_ n1_ n2_ n3_ n4_ n5_ n6_ n7_; (try clear hb); (try clear hb2); (try clear hk); (try clear hi); (try clear ho0)))
           repeat (go_quiet (first | (go_at_call 48; (with_reducible refine (impl_WornAt.calls k3 _ _ t759 _ _ t762 _ _ t765 t768 t769 _ _ t771 (wrap64 (x14_3 + 1)) t784 t787 _ ?side1 ?side2 ?side3 ?side4 ?side5 ?side6 ?side7 ?side8 A45.out).mono ?_); (case side1 => repeat (first | exact (Kd.R_reads' HO_771000.out).2.2 | (with_reducible refine Kd.C_alloc ?_ _) | (with_reducible refine Kd.C_drewN ?_ _) | (with_reducible refine Kd.C_drew ?_))); (case side2 => exact (Kd.R_reads' HO_771000.out).2.1); (case side3 => repeat (first | exact (Kd.R_reads' HO_771001.out).2.2 | (with_reducible refine Kd.C_alloc ?_ _) | (with_reducible refine Kd.C_drewN ?_ _) | (with_reducible refine Kd.C_drew ?_))); (case side4 => exact (Kd.R_reads' HO_771001.out).2.1); (case side5 => repeat (first | exact (Kd.R_reads' HO_771002.out).2.2 | (with_reducible refine Kd.C_alloc ?_ _) | (with_reducible refine Kd.C_drewN ?_ _) | (with_reducible refine Kd.C_drew ?_))); (case side6 => exact (Kd.R_reads' HO_771002.out).2.1); (case side7 => repeat (first | exact (Kd.S_reads' HO_6.out).2.2 | (with_reducible refine Kd.C_alloc ?_ _) | (with_reducible refine Kd.C_drewN ?_ _) | (with_reducible refine Kd.C_drew ?_))); (case side8 => exact (Kd.S_reads' HO_6.out).2.1); rintro e w48 ⟨v785, rfl, ho0, hb⟩; have n0_ := Aside0.mk (Kd.S_elder' (by (with_reducible repeat (first | apply Kd.S_alloc | apply Kd.S_drewN | apply Kd.S_drew)); exact HO_6.out) (Kd.R_base ho0) hb); have n1_ := Aside0.mk (Kd.R_elder' (by (with_reducible repeat (first | apply Kd.R_alloc | apply Kd.R_drewN | apply Kd.R_drew)); exact HO_7.out) (Kd.R_base ho0) hb); have n2_ := Aside0.mk (Kd.R_below (by (with_reducible repeat (first | apply Kd.R_alloc | apply Kd.R_drewN | apply Kd.R_drew)); exact HO_771000.out) hb); have n3_ := Aside0.mk (Kd.R_elder' (by (with_reducible repeat (first | apply Kd.R_alloc | apply Kd.R_drewN | apply Kd.R_drew)); exact HO_771001.out) (Kd.R_base ho0) hb); have n4_ := Aside0.mk (Kd.R_elder' (by (with_reducible repeat (first | apply Kd.R_alloc | apply Kd.R_drewN | apply Kd.R_drew)); exact HO_771002.out) (Kd.R_base ho0) hb); have n5_ := Aside0.mk (Kd.R_lower (Kd.R_new' (Kd.R_new' (Kd.R_new' ho0 (Kd.R_lt (by (with_reducible repeat (first | apply Kd.R_alloc | apply Kd.R_drewN | apply Kd.R_drew)); exact HO_7.out))) (Kd.R_lt (by (with_reducible repeat (first | apply Kd.R_alloc | apply Kd.R_drewN | apply Kd.R_drew)); exact HO_771001.out))) (Kd.R_lt (by (with_reducible repeat (first | apply Kd.R_alloc | apply Kd.R_drewN | apply Kd.R_drew)); exact HO_771002.out))) (below_size (by repeat (first | (with_reducible first | exact HB.out | apply below_alloc | apply pw_below_drewN | apply below_drew1 | refine below_set ?_ GE770.out) | exact HB.out)))); have n6_ := Aside0.mk (blk_below (g := gb770) (o := .cells #[.slice Ao12 t759.length co12, .slice Ao14 t762.length co14, .slice Ao15 t765.length co15, .int .i64 t768, .int .i64 t769] 64 (0, 0)) (by (with_reducible repeat (first | refine blk_drewN ?_ _ | refine blk_drew ?_ | refine blk_alloc ?_ _)); exact BK770.out) hb); have n7_ := Aside0.mk (below_step (by repeat (first | (with_reducible first | exact HB.out | apply below_alloc | apply pw_below_drewN | apply below_drew1 | refine below_set ?_ GE770.out) | exact HB.out)) hb); clear HO_6; clear HO_7; clear HO_771000; clear HO_771001; clear HO_771002; clear BK770; clear HB; have HO_6 := n0_; have HO_7 := n1_; have HO_771000 := n2_; have HO_771001 := n3_; have HO_771002 := n4_; have HO786 := n5_; have BK770 := n6_; have HB := n7_; clear n0_ n1_ n2_ n3_ n4_ n5_ n6_ n7_; (try clear hb); (try clear hb2); (try clear hk); (try clear hi); (try clear ho0))); go_upto_region 19 with (first | (go_at_call 48; (with_reducible refine (impl_WornAt.calls k3 _ _ t759 _ _ t762 _ _ t765 t768 t769 _ _ t771 (wrap64 (x14_3 + 1)) t784 t787 _ ?side1 ?side2 ?side3 ?side4 ?side5 ?side6 ?side7 ?side8 A45.out).mono ?_); (case side1 => repeat (first | exact (Kd.R_reads' HO_771000.out).2.2 | (with_reducible refine Kd.C_alloc ?_ _) | (with_reducible refine Kd.C_drewN ?_ _) | (with_reducible refine Kd.C_drew ?_))); (case side2 => exact (Kd.R_reads' HO_771000.out).2.1); (case side3 => repeat (first | exact (Kd.R_reads' HO_771001.out).2.2 | (with_reducible refine Kd.C_alloc ?_ _) | (with_reducible refine Kd.C_drewN ?_ _) | (with_reducible refine Kd.C_drew ?_))); (case side4 => exact (Kd.R_reads' HO_771001.out).2.1); (case side5 => repeat (first | exact (Kd.R_reads' HO_771002.out).2.2 | (with_reducible refine Kd.C_alloc ?_ _) | (with_reducible refine Kd.C_drewN ?_ _) | (with_reducible refine Kd.C_drew ?_))); (case side6 => exact (Kd.R_reads' HO_771002.out).2.1); (case side7 => repeat (first | exact (Kd.S_reads' HO_6.out).2.2 | (with_reducible refine Kd.C_alloc ?_ _) | (with_reducible refine Kd.C_drewN ?_ _) | (with_reducible refine Kd.C_drew ?_))); (case side8 => exact (Kd.S_reads' HO_6.out).2.1); rintro e w48 ⟨v785, rfl, ho0, hb⟩; have n0_ := Aside0.mk (Kd.S_elder' (by (with_reducible repeat (first | apply Kd.S_alloc | apply Kd.S_drewN | apply Kd.S_drew)); exact HO_6.out) (Kd.R_base ho0) hb); have n1_ := Aside0.mk (Kd.R_elder' (by (with_reducible repeat (first | apply Kd.R_alloc | apply Kd.R_drewN | apply Kd.R_drew)); exact HO_7.out) (Kd.R_base ho0) hb); have n2_ := Aside0.mk (Kd.R_below (by (with_reducible repeat (first | apply Kd.R_alloc | apply Kd.R_drewN | apply Kd.R_drew)); exact HO_771000.out) hb); have n3_ := Aside0.mk (Kd.R_elder' (by (with_reducible repeat (first | apply Kd.R_alloc | apply Kd.R_drewN | apply Kd.R_drew)); exact HO_771001.out) (Kd.R_base ho0) hb); have n4_ := Aside0.mk (Kd.R_elder' (by (with_reducible repeat (first | apply Kd.R_alloc | apply Kd.R_drewN | apply Kd.R_drew)); exact HO_771002.out) (Kd.R_base ho0) hb); have n5_ := Aside0.mk (Kd.R_lower (Kd.R_new' (Kd.R_new' (Kd.R_new' ho0 (Kd.R_lt (by (with_reducible repeat (first | apply Kd.R_alloc | apply Kd.R_drewN | apply Kd.R_drew)); exact HO_7.out))) (Kd.R_lt (by (with_reducible repeat (first | apply Kd.R_alloc | apply Kd.R_drewN | apply Kd.R_drew)); exact HO_771001.out))) (Kd.R_lt (by (with_reducible repeat (first | apply Kd.R_alloc | apply Kd.R_drewN | apply Kd.R_drew)); exact HO_771002.out))) (below_size (by repeat (first | (with_reducible first | exact HB.out | apply below_alloc | apply pw_below_drewN | apply below_drew1 | refine below_set ?_ GE770.out) | exact HB.out)))); have n6_ := Aside0.mk (blk_below (g := gb770) (o := .cells #[.slice Ao12 t759.length co12, .slice Ao14 t762.length co14, .slice Ao15 t765.length co15, .int .i64 t768, .int .i64 t769] 64 (0, 0)) (by (with_reducible repeat (first | refine blk_drewN ?_ _ | refine blk_drew ?_ | refine blk_alloc ?_ _)); exact BK770.out) hb); have n7_ := Aside0.mk (below_step (by repeat (first | (with_reducible first | exact HB.out | apply below_alloc | apply pw_below_drewN | apply below_drew1 | refine below_set ?_ GE770.out) | exact HB.out)) hb); clear HO_6; clear HO_7; clear HO_771000; clear HO_771001; clear HO_771002; clear BK770; clear HB; have HO_6 := n0_; have HO_7 := n1_; have HO_771000 := n2_; have HO_771001 := n3_; have HO_771002 := n4_; have HO786 := n5_; have BK770 := n6_; have HB := n7_; clear n0_ n1_ n2_ n3_ n4_ n5_ n6_ n7_; (try clear hb); (try clear hb2); (try clear hk); (try clear hi); (try clear ho0))))
           (try simp only [Act.put, List.setIfInBounds_toArray, List.set_cons_zero, List.set_cons_succ])
           go_cut [98] (fun v98 wc => ∃ (kq : Nat) (x98_45 : Bool), v98 = .bool x98_45 ∧ Aside0 (laws_FnWorn.j3 kq t771 x7_3 t778 t779 t780 x13_3 x14_3 t784 x98_45 t759 t762 t765 t768 t769 = some r) ∧ Aside0 (kq ≤ k3) ∧ Aside0 (Kd.S k94 94 wc w.heap.size (fun k_ => some k_ ≠ (u7 : Value).ownBlock ∧ some k_ ≠ (v785 : Value).ownBlock ∧ some k_ ≠ ((.slice Ao14 t762.length co14) : Value).ownBlock ∧ some k_ ≠ ((.slice Ao15 t765.length co15) : Value).ownBlock) (.slice Ao18 t771.length co18) t771) ∧ Aside0 (Kd.R (Kd.int .i64) 2 wc w.heap.size (fun k_ => some k_ ≠ (v785 : Value).ownBlock ∧ some k_ ≠ ((.slice Ao14 t762.length co14) : Value).ownBlock ∧ some k_ ≠ ((.slice Ao15 t765.length co15) : Value).ownBlock) u7 x7_3) ∧ Aside0 (Kd.R (Kd.int .i64) 2 wc w.heap.size (fun k_ => some k_ ≠ (u7 : Value).ownBlock ∧ some k_ ≠ ((.slice Ao14 t762.length co14) : Value).ownBlock ∧ some k_ ≠ ((.slice Ao15 t765.length co15) : Value).ownBlock) v785 t784) ∧ Aside0 (Kd.R k79 79 wc w.heap.size (fun _ => True) (.slice Ao12 t759.length co12) t759) ∧ Aside0 (Kd.R (Kd.int .i64) 2 wc w.heap.size (fun k_ => some k_ ≠ (u7 : Value).ownBlock ∧ some k_ ≠ (v785 : Value).ownBlock ∧ some k_ ≠ ((.slice Ao15 t765.length co15) : Value).ownBlock) (.slice Ao14 t762.length co14) t762) ∧ Aside0 (Kd.R (Kd.int .i64) 2 wc w.heap.size (fun k_ => some k_ ≠ (u7 : Value).ownBlock ∧ some k_ ≠ (v785 : Value).ownBlock ∧ some k_ ≠ ((.slice Ao14 t762.length co14) : Value).ownBlock) (.slice Ao15 t765.length co15) t765) ∧ Aside0 (wc.heap[gb770]? = some (.cells #[(.slice Ao12 t759.length co12), (.slice Ao14 t762.length co14), (.slice Ao15 t765.length co15), .int .i64 t768, .int .i64 t769] 64 (0, 0))) ∧ Aside0 (Below w.heap.size w wc))
           case first =>
            have H := HC46.out
            clear HC46
            by_cases c49 : t787 = true
            ·subst c49
             have H1 : (laws_FnWorn.j3 k3 t771 x7_3 t778 t779 t780 x13_3 x14_3 t784 ((t784.length : Int) != (t759.length : Int)) t759 t762 t765 t768 t769) = some r := by rw [if_pos rfl] at H; exact H
             clear H
             have H := H1
             clear H1
             have H' := Aside0.mk H
             clear H
             obtain ⟨Ao50, co50, eo50⟩ := Kd.R_slice HO786.out
             subst eo50
             have hcz51_0 : w48.cell? ⟨gb770, 0, none⟩ = some (.slice Ao12 t759.length co12) := (blk_cell BK770.out 0).trans rfl
             have hcz51_1 : w48.cell? ⟨gb770, 1, none⟩ = some (.slice Ao14 t762.length co14) := (blk_cell BK770.out 1).trans rfl
             have hcz51_2 : w48.cell? ⟨gb770, 2, none⟩ = some (.slice Ao15 t765.length co15) := (blk_cell BK770.out 2).trans rfl
             have hcz51_3 : w48.cell? ⟨gb770, 3, none⟩ = some (.int .i64 t768) := (blk_cell BK770.out 3).trans rfl
             have hcz51_4 : w48.cell? ⟨gb770, 4, none⟩ = some (.int .i64 t769) := (blk_cell BK770.out 4).trans rfl
             have hfz51_0 := blk_frozen BK770.out 0
             have hfz51_1 := blk_frozen BK770.out 1
             have hfz51_2 := blk_frozen BK770.out 2
             have hfz51_3 := blk_frozen BK770.out 3
             have hfz51_4 := blk_frozen BK770.out 4
             go_wp2
             repeat (go_quiet (fail); try go_wp2)
             go_meet
             case rel => exact ⟨_, (((t784.length : Int) != (t759.length : Int))), (by first | rfl | (simp; done) | (simp [*]; done) | (simp [Int.tdiv_eq_ediv_of_nonneg, *]; done)), H', ⟨by have := HJ8.out; have := HK2.out; have := HK3.out; first | omega | exact Nat.le_refl _⟩, ⟨by (with_reducible repeat (first | apply Kd.S_alloc | apply Kd.S_drewN | apply Kd.S_drew)); exact Kd.S_mono HO_6.out (fun _ hk => ⟨hk.1.1, ⟨hk.2, ⟨hk.1.2.1, hk.1.2.2⟩⟩⟩)⟩, ⟨by (with_reducible repeat (first | apply Kd.R_alloc | apply Kd.R_drewN | apply Kd.R_drew)); exact Kd.R_mono HO_7.out (fun _ hk => ⟨hk.2, ⟨hk.1.1, hk.1.2⟩⟩)⟩, ⟨by (with_reducible repeat (first | apply Kd.R_alloc | apply Kd.R_drewN | apply Kd.R_drew)); exact Kd.R_mono HO786.out (fun _ hk => ⟨hk.1.1.2, ⟨hk.1.2, hk.2⟩⟩)⟩, ⟨by (with_reducible repeat (first | apply Kd.R_alloc | apply Kd.R_drewN | apply Kd.R_drew)); exact HO_771000.out⟩, ⟨by (with_reducible repeat (first | apply Kd.R_alloc | apply Kd.R_drewN | apply Kd.R_drew)); exact Kd.R_mono HO_771001.out (fun _ hk => ⟨hk.1.1, ⟨hk.2, hk.1.2⟩⟩)⟩, ⟨by (with_reducible repeat (first | apply Kd.R_alloc | apply Kd.R_drewN | apply Kd.R_drew)); exact Kd.R_mono HO_771002.out (fun _ hk => ⟨hk.1.1, ⟨hk.2, hk.1.2⟩⟩)⟩, ⟨by (with_reducible repeat (first | refine blk_drewN ?_ _ | refine blk_drew ?_ | refine blk_alloc ?_ _)); exact BK770.out⟩, ⟨by repeat (first | (with_reducible first | exact HB.out | apply below_alloc | apply pw_below_drewN | apply below_drew1 | refine below_set ?_ GE770.out) | exact HB.out)⟩⟩
            ·replace c49 := Bool.eq_false_iff.mpr c49
             subst c49
             have H1 : (laws_FnWorn.j3 k3 t771 x7_3 t778 t779 t780 x13_3 x14_3 t784 true t759 t762 t765 t768 t769) = some r := by rw [if_neg (show ¬ (false = true) by decide)] at H; exact H
             clear H
             have H := H1
             clear H1
             have H' := Aside0.mk H
             clear H
             go_wp2
             repeat (go_quiet (fail); try go_wp2)
             go_meet
             case rel => exact ⟨_, (true), (by first | rfl | (simp; done) | (simp [*]; done) | (simp [Int.tdiv_eq_ediv_of_nonneg, *]; done)), H', ⟨by have := HJ8.out; have := HK2.out; have := HK3.out; first | omega | exact Nat.le_refl _⟩, ⟨by (with_reducible repeat (first | apply Kd.S_alloc | apply Kd.S_drewN | apply Kd.S_drew)); exact Kd.S_mono HO_6.out (fun _ hk => ⟨hk.1.1, ⟨hk.2, ⟨hk.1.2.1, hk.1.2.2⟩⟩⟩)⟩, ⟨by (with_reducible repeat (first | apply Kd.R_alloc | apply Kd.R_drewN | apply Kd.R_drew)); exact Kd.R_mono HO_7.out (fun _ hk => ⟨hk.2, ⟨hk.1.1, hk.1.2⟩⟩)⟩, ⟨by (with_reducible repeat (first | apply Kd.R_alloc | apply Kd.R_drewN | apply Kd.R_drew)); exact Kd.R_mono HO786.out (fun _ hk => ⟨hk.1.1.2, ⟨hk.1.2, hk.2⟩⟩)⟩, ⟨by (with_reducible repeat (first | apply Kd.R_alloc | apply Kd.R_drewN | apply Kd.R_drew)); exact HO_771000.out⟩, ⟨by (with_reducible repeat (first | apply Kd.R_alloc | apply Kd.R_drewN | apply Kd.R_drew)); exact Kd.R_mono HO_771001.out (fun _ hk => ⟨hk.1.1, ⟨hk.2, hk.1.2⟩⟩)⟩, ⟨by (with_reducible repeat (first | apply Kd.R_alloc | apply Kd.R_drewN | apply Kd.R_drew)); exact Kd.R_mono HO_771002.out (fun _ hk => ⟨hk.1.1, ⟨hk.2, hk.1.2⟩⟩)⟩, ⟨by (with_reducible repeat (first | refine blk_drewN ?_ _ | refine blk_drew ?_ | refine blk_alloc ?_ _)); exact BK770.out⟩, ⟨by repeat (first | (with_reducible first | exact HB.out | apply below_alloc | apply pw_below_drewN | apply below_drew1 | refine below_set ?_ GE770.out) | exact HB.out)⟩⟩
           case rest =>
            clear HC46
            try clear c1
            try clear c2
            try clear p2
            try clear c3
            try clear c4
            try clear p6
            try clear p7
            try clear q7
            try clear hx7
            try clear c8
            try clear c22
            try clear c23
            try clear c23b0
            try clear c23b1
            try clear c23b2
            try clear c25
            try clear c37
            try clear c38
            try clear c38b0
            try clear c39
            try clear c39b0
            try clear c40
            try clear c40b0
            try clear c40b1
            try clear c44
            try clear c44b0
            try clear c49
            try clear hcz13_0
            try clear hcz13_1
            try clear hcz13_2
            try clear hcz13_3
            try clear hcz13_4
            try clear hcz17_0
            try clear hcz17_1
            try clear hcz17_2
            try clear hcz17_3
            try clear hcz17_4
            try clear hcz20_0
            try clear hcz20_1
            try clear hcz20_2
            try clear hcz20_3
            try clear hcz20_4
            try clear hcz28_0
            try clear hcz28_1
            try clear hcz28_2
            try clear hcz28_3
            try clear hcz28_4
            try clear hcz30_0
            try clear hcz30_1
            try clear hcz30_2
            try clear hcz30_3
            try clear hcz30_4
            try clear hcz33_0
            try clear hcz33_1
            try clear hcz33_2
            try clear hcz33_3
            try clear hcz33_4
            try clear hcz36_0
            try clear hcz36_1
            try clear hcz36_2
            try clear hcz36_3
            try clear hcz36_4
            try clear hcz47_0
            try clear hcz47_1
            try clear hcz47_2
            try clear hcz47_3
            try clear hcz47_4
            try clear hcz51_0
            try clear hcz51_1
            try clear hcz51_2
            try clear hcz51_3
            try clear hcz51_4
            try clear hfz13_0
            try clear hfz13_1
            try clear hfz13_2
            try clear hfz13_3
            try clear hfz13_4
            try clear hfz17_0
            try clear hfz17_1
            try clear hfz17_2
            try clear hfz17_3
            try clear hfz17_4
            try clear hfz20_0
            try clear hfz20_1
            try clear hfz20_2
            try clear hfz20_3
            try clear hfz20_4
            try clear hfz28_0
            try clear hfz28_1
            try clear hfz28_2
            try clear hfz28_3
            try clear hfz28_4
            try clear hfz30_0
            try clear hfz30_1
            try clear hfz30_2
            try clear hfz30_3
            try clear hfz30_4
            try clear hfz33_0
            try clear hfz33_1
            try clear hfz33_2
            try clear hfz33_3
            try clear hfz33_4
            try clear hfz36_0
            try clear hfz36_1
            try clear hfz36_2
            try clear hfz36_3
            try clear hfz36_4
            try clear hfz47_0
            try clear hfz47_1
            try clear hfz47_2
            try clear hfz47_3
            try clear hfz47_4
            try clear hfz51_0
            try clear hfz51_1
            try clear hfz51_2
            try clear hfz51_3
            try clear hfz51_4
            try clear hx783_0
            try clear p2
            try clear p6
            try clear p7
            try clear p783
            try clear q7
            try clear q783
            obtain ⟨kq, x98_45, rfl, HA, HJ45, HO_6, HO_7, HO_15, HO_771000, HO_771001, HO_771002, BK770, HB⟩ := hcut
            cases kq with
            | zero => exact absurd HA.out (by simp [laws_FnWorn.j3])
            | succ kj45 =>
             have H := HA.out
             clear HA
             simp only [laws_FnWorn.j3] at H
             by_cases c52 : x98_45 = true
             ·subst c52
              have H1 : (some false) = some r := by rw [if_pos rfl] at H; exact H
              clear H
              have H := H1
              clear H1
              obtain rfl := Option.some.inj H
              go_wp2
              repeat (go_quiet (fail); try go_wp2)
              go_ret
              exact ⟨by first | rfl | (simp [errW_none, errW_some] <;> rfl) | (simp [*, errW_none, errW_some] <;> rfl) | (simp [Int.tdiv_eq_ediv_of_nonneg, *]; done), by repeat (first | (with_reducible first | exact HB.out | apply below_alloc | apply pw_below_drewN | apply below_drew1 | refine below_set ?_ GE770.out) | exact HB.out)⟩
             ·replace c52 := Bool.eq_false_iff.mpr c52
              subst c52
              have H1 : (laws_FnWorn.l2 kj45 t771 x7_3 t778 t779 t780 x13_3 x14_3 t784 0 t759 t762 t765 t768 t769) = some r := by rw [if_neg (show ¬ (false = true) by decide)] at H; exact H
              clear H
              have H := H1
              clear H1
              have H' := Aside0.mk H
              clear H
              go_wp2
              repeat (go_quiet (fail); try go_wp2)
              go_loopg [13, 17] kj45 (fun kq v13 v17 w' => ∃ (x13_5 : Bool) (x17_5 : Int), v13 = .bool x13_5 ∧ v17 = .int .i64 x17_5 ∧ Aside0 (laws_FnWorn.l2 kq t771 x7_3 t778 t779 t780 x13_5 x14_3 t784 x17_5 t759 t762 t765 t768 t769 = some r) ∧ Aside0 (kq ≤ kj45) ∧ Aside0 (Kd.S k94 94 w' w.heap.size (fun k_ => some k_ ≠ (u7 : Value).ownBlock ∧ some k_ ≠ (v785 : Value).ownBlock ∧ some k_ ≠ ((.slice Ao14 t762.length co14) : Value).ownBlock ∧ some k_ ≠ ((.slice Ao15 t765.length co15) : Value).ownBlock) (.slice Ao18 t771.length co18) t771) ∧ Aside0 (Kd.R (Kd.int .i64) 2 w' w.heap.size (fun k_ => some k_ ≠ (v785 : Value).ownBlock ∧ some k_ ≠ ((.slice Ao14 t762.length co14) : Value).ownBlock ∧ some k_ ≠ ((.slice Ao15 t765.length co15) : Value).ownBlock) u7 x7_3) ∧ Aside0 (Kd.R (Kd.int .i64) 2 w' w.heap.size (fun k_ => some k_ ≠ (u7 : Value).ownBlock ∧ some k_ ≠ ((.slice Ao14 t762.length co14) : Value).ownBlock ∧ some k_ ≠ ((.slice Ao15 t765.length co15) : Value).ownBlock) v785 t784) ∧ Aside0 (Kd.R k79 79 w' w.heap.size (fun _ => True) (.slice Ao12 t759.length co12) t759) ∧ Aside0 (Kd.R (Kd.int .i64) 2 w' w.heap.size (fun k_ => some k_ ≠ (u7 : Value).ownBlock ∧ some k_ ≠ (v785 : Value).ownBlock ∧ some k_ ≠ ((.slice Ao15 t765.length co15) : Value).ownBlock) (.slice Ao14 t762.length co14) t762) ∧ Aside0 (Kd.R (Kd.int .i64) 2 w' w.heap.size (fun k_ => some k_ ≠ (u7 : Value).ownBlock ∧ some k_ ≠ (v785 : Value).ownBlock ∧ some k_ ≠ ((.slice Ao14 t762.length co14) : Value).ownBlock) (.slice Ao15 t765.length co15) t765) ∧ Aside0 (w'.heap[gb770]? = some (.cells #[(.slice Ao12 t759.length co12), (.slice Ao14 t762.length co14), (.slice Ao15 t765.length co15), .int .i64 t768, .int .i64 t769] 64 (0, 0))) ∧ Aside0 (Below w.heap.size w w'))
              case atStart => exact ⟨(x13_3), (0), (by first | rfl | (simp; done) | (simp [*]; done) | (simp [Int.tdiv_eq_ediv_of_nonneg, *]; done)), (by first | rfl | (simp; done) | (simp [*]; done) | (simp [Int.tdiv_eq_ediv_of_nonneg, *]; done)), H', ⟨Nat.le_refl _⟩, ⟨by (with_reducible repeat (first | apply Kd.S_alloc | apply Kd.S_drewN | apply Kd.S_drew)); exact HO_6.out⟩, ⟨by (with_reducible repeat (first | apply Kd.R_alloc | apply Kd.R_drewN | apply Kd.R_drew)); exact HO_7.out⟩, ⟨by (with_reducible repeat (first | apply Kd.R_alloc | apply Kd.R_drewN | apply Kd.R_drew)); exact HO_15.out⟩, ⟨by (with_reducible repeat (first | apply Kd.R_alloc | apply Kd.R_drewN | apply Kd.R_drew)); exact HO_771000.out⟩, ⟨by (with_reducible repeat (first | apply Kd.R_alloc | apply Kd.R_drewN | apply Kd.R_drew)); exact HO_771001.out⟩, ⟨by (with_reducible repeat (first | apply Kd.R_alloc | apply Kd.R_drewN | apply Kd.R_drew)); exact HO_771002.out⟩, ⟨by (with_reducible repeat (first | refine blk_drewN ?_ _ | refine blk_drew ?_ | refine blk_alloc ?_ _)); exact BK770.out⟩, ⟨by repeat (first | (with_reducible first | exact HB.out | apply below_alloc | apply pw_below_drewN | apply below_drew1 | refine below_set ?_ GE770.out) | exact HB.out)⟩⟩
              case round =>
               clear H'
               try clear c1
               try clear c2
               try clear p2
               try clear c3
               try clear c4
               try clear c5
               try clear p6
               try clear p7
               try clear q7
               try clear hx7
               try clear c8
               try clear c22
               try clear c23
               try clear c23b0
               try clear c23b1
               try clear c23b2
               try clear c25
               try clear c37
               try clear c38
               try clear c38b0
               try clear c39
               try clear c39b0
               try clear c40
               try clear c40b0
               try clear c40b1
               try clear c44
               try clear c44b0
               try clear c49
               try clear c52
               try clear hcz13_0
               try clear hcz13_1
               try clear hcz13_2
               try clear hcz13_3
               try clear hcz13_4
               try clear hcz17_0
               try clear hcz17_1
               try clear hcz17_2
               try clear hcz17_3
               try clear hcz17_4
               try clear hcz20_0
               try clear hcz20_1
               try clear hcz20_2
               try clear hcz20_3
               try clear hcz20_4
               try clear hcz28_0
               try clear hcz28_1
               try clear hcz28_2
               try clear hcz28_3
               try clear hcz28_4
               try clear hcz30_0
               try clear hcz30_1
               try clear hcz30_2
               try clear hcz30_3
               try clear hcz30_4
               try clear hcz33_0
               try clear hcz33_1
               try clear hcz33_2
               try clear hcz33_3
               try clear hcz33_4
               try clear hcz36_0
               try clear hcz36_1
               try clear hcz36_2
               try clear hcz36_3
               try clear hcz36_4
               try clear hcz47_0
               try clear hcz47_1
               try clear hcz47_2
               try clear hcz47_3
               try clear hcz47_4
               try clear hcz51_0
               try clear hcz51_1
               try clear hcz51_2
               try clear hcz51_3
               try clear hcz51_4
               try clear hfz13_0
               try clear hfz13_1
               try clear hfz13_2
               try clear hfz13_3
               try clear hfz13_4
               try clear hfz17_0
               try clear hfz17_1
               try clear hfz17_2
               try clear hfz17_3
               try clear hfz17_4
               try clear hfz20_0
               try clear hfz20_1
               try clear hfz20_2
               try clear hfz20_3
               try clear hfz20_4
               try clear hfz28_0
               try clear hfz28_1
               try clear hfz28_2
               try clear hfz28_3
               try clear hfz28_4
               try clear hfz30_0
               try clear hfz30_1
               try clear hfz30_2
               try clear hfz30_3
               try clear hfz30_4
               try clear hfz33_0
               try clear hfz33_1
               try clear hfz33_2
               try clear hfz33_3
               try clear hfz33_4
               try clear hfz36_0
               try clear hfz36_1
               try clear hfz36_2
               try clear hfz36_3
               try clear hfz36_4
               try clear hfz47_0
               try clear hfz47_1
               try clear hfz47_2
               try clear hfz47_3
               try clear hfz47_4
               try clear hfz51_0
               try clear hfz51_1
               try clear hfz51_2
               try clear hfz51_3
               try clear hfz51_4
               try clear hx783_0
               try clear p2
               try clear p6
               try clear p7
               try clear p783
               try clear q7
               try clear q783
               obtain ⟨x13_5, x17_5, rfl, rfl, HA, HK5, HO_6, HO_7, HO_15, HO_771000, HO_771001, HO_771002, BK770, HB⟩ := hrel
               cases gk with
               | zero => exact absurd HA.out (by simp [laws_FnWorn.l2])
               | succ k5 =>
                have H := HA.out
                clear HA
                simp only [laws_FnWorn.l2] at H
                by_cases c53 : x17_5 < (t759.length : Int)
                ·rw [if_pos c53] at H
                 have c53b0 : decide (x17_5 < (t759.length : Int)) = true := decide_eq_true c53
                 clear c53
                 by_cases c54 : 0 ≤ x17_5
                 ·rw [if_pos c54] at H
                  have c54b0 : decide (0 ≤ x17_5) = true := decide_eq_true c54
                  clear c54
                  by_cases c55 : x17_5 < (x7_3.length : Int)
                  ·rw [if_pos c55] at H
                   have c55b0 : decide (x17_5 < (x7_3.length : Int)) = true := decide_eq_true c55
                   clear c55
                   by_cases c56 : 0 ≤ x14_3
                   ·rw [if_pos c56] at H
                    have c56b0 : decide (0 ≤ x14_3) = true := decide_eq_true c56
                    clear c56
                    by_cases c57 : x14_3 < (t762.length : Int)
                    ·rw [if_pos c57] at H
                     have c57b0 : decide (x14_3 < (t762.length : Int)) = true := decide_eq_true c57
                     clear c57
                     have HC58 := Aside0.mk H
                     clear H
                     have hcz59_0 : wr.cell? ⟨gb770, 0, none⟩ = some (.slice Ao12 t759.length co12) := (blk_cell BK770.out 0).trans rfl
                     have hcz59_1 : wr.cell? ⟨gb770, 1, none⟩ = some (.slice Ao14 t762.length co14) := (blk_cell BK770.out 1).trans rfl
                     have hcz59_2 : wr.cell? ⟨gb770, 2, none⟩ = some (.slice Ao15 t765.length co15) := (blk_cell BK770.out 2).trans rfl
                     have hcz59_3 : wr.cell? ⟨gb770, 3, none⟩ = some (.int .i64 t768) := (blk_cell BK770.out 3).trans rfl
                     have hcz59_4 : wr.cell? ⟨gb770, 4, none⟩ = some (.int .i64 t769) := (blk_cell BK770.out 4).trans rfl
                     have hfz59_0 := blk_frozen BK770.out 0
                     have hfz59_1 := blk_frozen BK770.out 1
                     have hfz59_2 := blk_frozen BK770.out 2
                     have hfz59_3 := blk_frozen BK770.out 3
                     have hfz59_4 := blk_frozen BK770.out 4
                     obtain ⟨Ao60, co60, eo60⟩ := Kd.R_slice HO_7.out
                     subst eo60
                     have p788 : 0 ≤ (x17_5 : Int) := of_decide_eq_true (by assumption)
                     have q788 : x17_5 < (x7_3.length : Int) := of_decide_eq_true (by assumption)
                     obtain ⟨ad788, e788, hx788_0⟩ := Kd.at_int (Kd.R_reads' HO_7.out).2.2 x17_5 p788 q788
                     cases e788
                     replace p788 := eq_true p788
                     replace q788 := eq_true q788
                     have p789 : 0 ≤ (x17_5 : Int) := of_decide_eq_true (by assumption)
                     have q789 : x17_5 < (t759.length : Int) := of_decide_eq_true (by assumption)
                     obtain ⟨ad789, e789, hx789_0, hx789_1⟩ := at_T79 (Kd.R_reads' HO_771000.out).2.2 x17_5 p789 q789
                     cases e789
                     replace p789 := eq_true p789
                     replace q789 := eq_true q789
                     have p790 : 0 ≤ (x14_3 : Int) := of_decide_eq_true (by assumption)
                     have q790 : x14_3 < (t762.length : Int) := of_decide_eq_true (by assumption)
                     obtain ⟨ad790, e790, hx790_0⟩ := Kd.at_int (Kd.R_reads' HO_771001.out).2.2 x14_3 p790 q790
                     cases e790
                     replace p790 := eq_true p790
                     replace q790 := eq_true q790
                     go_upto_region 25 with (fail)
                     repeat (go_quiet (fail); go_upto_region 25 with (fail))
                     go_cut [134] (fun v134 wc => ∃ (kq : Nat) (x134_57 : Bool), v134 = .bool x134_57 ∧ Aside0 (laws_FnWorn.j5 kq t771 x7_3 t778 t779 t780 x13_5 x14_3 t784 x17_5 (wrap64 ((rd x7_3 x17_5) + (wrap64 (((rd_T79 t759 x17_5).f0) * (rd t762 x14_3))))) x134_57 t759 t762 t765 t768 t769 = some r) ∧ Aside0 (kq ≤ k5) ∧ Aside0 (Kd.S k94 94 wc w.heap.size (fun k_ => some k_ ≠ ((.slice (some ad788) x7_3.length co60) : Value).ownBlock ∧ some k_ ≠ (v785 : Value).ownBlock ∧ some k_ ≠ ((.slice (some ad790) t762.length co14) : Value).ownBlock ∧ some k_ ≠ ((.slice Ao15 t765.length co15) : Value).ownBlock) (.slice Ao18 t771.length co18) t771) ∧ Aside0 (Kd.R (Kd.int .i64) 2 wc w.heap.size (fun k_ => some k_ ≠ (v785 : Value).ownBlock ∧ some k_ ≠ ((.slice (some ad790) t762.length co14) : Value).ownBlock ∧ some k_ ≠ ((.slice Ao15 t765.length co15) : Value).ownBlock) (.slice (some ad788) x7_3.length co60) x7_3) ∧ Aside0 (Kd.R (Kd.int .i64) 2 wc w.heap.size (fun k_ => some k_ ≠ ((.slice (some ad788) x7_3.length co60) : Value).ownBlock ∧ some k_ ≠ ((.slice (some ad790) t762.length co14) : Value).ownBlock ∧ some k_ ≠ ((.slice Ao15 t765.length co15) : Value).ownBlock) v785 t784) ∧ Aside0 (Kd.R k79 79 wc w.heap.size (fun _ => True) (.slice (some ad789) t759.length co12) t759) ∧ Aside0 (Kd.R (Kd.int .i64) 2 wc w.heap.size (fun k_ => some k_ ≠ ((.slice (some ad788) x7_3.length co60) : Value).ownBlock ∧ some k_ ≠ (v785 : Value).ownBlock ∧ some k_ ≠ ((.slice Ao15 t765.length co15) : Value).ownBlock) (.slice (some ad790) t762.length co14) t762) ∧ Aside0 (Kd.R (Kd.int .i64) 2 wc w.heap.size (fun k_ => some k_ ≠ ((.slice (some ad788) x7_3.length co60) : Value).ownBlock ∧ some k_ ≠ (v785 : Value).ownBlock ∧ some k_ ≠ ((.slice (some ad790) t762.length co14) : Value).ownBlock) (.slice Ao15 t765.length co15) t765) ∧ Aside0 (wc.heap[gb770]? = some (.cells #[(.slice (some ad789) t759.length co12), (.slice (some ad790) t762.length co14), (.slice Ao15 t765.length co15), .int .i64 t768, .int .i64 t769] 64 (0, 0))) ∧ Aside0 (Below w.heap.size w wc))
                     case first =>
                      have H := HC58.out
                      clear HC58
                      by_cases c61 : (wrap64 ((rd x7_3 x17_5) + (wrap64 (((rd_T79 t759 x17_5).f0) * (rd t762 x14_3))))) > ((rd_T79 t759 x17_5).f1)
                      ·rw [if_pos c61] at H
                       have c61b0 : decide (((rd_T79 t759 x17_5).f1) < (wrap64 ((rd x7_3 x17_5) + (wrap64 (((rd_T79 t759 x17_5).f0) * (rd t762 x14_3)))))) = true := decide_eq_true c61
                       clear c61
                       (first | rw [c61b0] | (simp only [i64_w, i32_w]; rw [c61b0]) | skip)
                       have H' := Aside0.mk H
                       clear H
                       have hcz62_0 : wr.cell? ⟨gb770, 0, none⟩ = some (.slice (some ad789) t759.length co12) := (blk_cell BK770.out 0).trans rfl
                       have hcz62_1 : wr.cell? ⟨gb770, 1, none⟩ = some (.slice (some ad790) t762.length co14) := (blk_cell BK770.out 1).trans rfl
                       have hcz62_2 : wr.cell? ⟨gb770, 2, none⟩ = some (.slice Ao15 t765.length co15) := (blk_cell BK770.out 2).trans rfl
                       have hcz62_3 : wr.cell? ⟨gb770, 3, none⟩ = some (.int .i64 t768) := (blk_cell BK770.out 3).trans rfl
                       have hcz62_4 : wr.cell? ⟨gb770, 4, none⟩ = some (.int .i64 t769) := (blk_cell BK770.out 4).trans rfl
                       have hfz62_0 := blk_frozen BK770.out 0
                       have hfz62_1 := blk_frozen BK770.out 1
                       have hfz62_2 := blk_frozen BK770.out 2
                       have hfz62_3 := blk_frozen BK770.out 3
                       have hfz62_4 := blk_frozen BK770.out 4
                       have p791 : 0 ≤ (x17_5 : Int) := of_decide_eq_true (by assumption)
                       have q791 : x17_5 < (t759.length : Int) := of_decide_eq_true (by assumption)
                       obtain ⟨ad791, e791, hx791_0, hx791_1⟩ := at_T79 (Kd.R_reads' HO_771000.out).2.2 x17_5 p791 q791
                       obtain rfl : ad789 = ad791 := (by injection e791)
                       replace p791 := eq_true p791
                       replace q791 := eq_true q791
                       go_wp2
                       repeat (go_quiet (fail); try go_wp2)
                       go_meet
                       case rel => exact ⟨_, (!x13_5), (by first | rfl | (simp; done) | (simp [*]; done) | (simp [Int.tdiv_eq_ediv_of_nonneg, *]; done)), H', ⟨by have := HJ8.out; have := HK2.out; have := HK3.out; have := HJ45.out; have := HK5.out; first | omega | exact Nat.le_refl _⟩, ⟨by (with_reducible repeat (first | apply Kd.S_alloc | apply Kd.S_drewN | apply Kd.S_drew)); exact HO_6.out⟩, ⟨by (with_reducible repeat (first | apply Kd.R_alloc | apply Kd.R_drewN | apply Kd.R_drew)); exact HO_7.out⟩, ⟨by (with_reducible repeat (first | apply Kd.R_alloc | apply Kd.R_drewN | apply Kd.R_drew)); exact HO_15.out⟩, ⟨by (with_reducible repeat (first | apply Kd.R_alloc | apply Kd.R_drewN | apply Kd.R_drew)); exact HO_771000.out⟩, ⟨by (with_reducible repeat (first | apply Kd.R_alloc | apply Kd.R_drewN | apply Kd.R_drew)); exact HO_771001.out⟩, ⟨by (with_reducible repeat (first | apply Kd.R_alloc | apply Kd.R_drewN | apply Kd.R_drew)); exact HO_771002.out⟩, ⟨by (with_reducible repeat (first | refine blk_drewN ?_ _ | refine blk_drew ?_ | refine blk_alloc ?_ _)); exact BK770.out⟩, ⟨by repeat (first | (with_reducible first | exact HB.out | apply below_alloc | apply pw_below_drewN | apply below_drew1 | refine below_set ?_ GE770.out) | exact HB.out)⟩⟩
                      ·rw [if_neg c61] at H
                       have c61b0 : decide (((rd_T79 t759 x17_5).f1) < (wrap64 ((rd x7_3 x17_5) + (wrap64 (((rd_T79 t759 x17_5).f0) * (rd t762 x14_3)))))) = false := decide_eq_false c61
                       clear c61
                       (first | rw [c61b0] | (simp only [i64_w, i32_w]; rw [c61b0]) | skip)
                       have H' := Aside0.mk H
                       clear H
                       have hcz63_0 : wr.cell? ⟨gb770, 0, none⟩ = some (.slice (some ad789) t759.length co12) := (blk_cell BK770.out 0).trans rfl
                       have hcz63_1 : wr.cell? ⟨gb770, 1, none⟩ = some (.slice (some ad790) t762.length co14) := (blk_cell BK770.out 1).trans rfl
                       have hcz63_2 : wr.cell? ⟨gb770, 2, none⟩ = some (.slice Ao15 t765.length co15) := (blk_cell BK770.out 2).trans rfl
                       have hcz63_3 : wr.cell? ⟨gb770, 3, none⟩ = some (.int .i64 t768) := (blk_cell BK770.out 3).trans rfl
                       have hcz63_4 : wr.cell? ⟨gb770, 4, none⟩ = some (.int .i64 t769) := (blk_cell BK770.out 4).trans rfl
                       have hfz63_0 := blk_frozen BK770.out 0
                       have hfz63_1 := blk_frozen BK770.out 1
                       have hfz63_2 := blk_frozen BK770.out 2
                       have hfz63_3 := blk_frozen BK770.out 3
                       have hfz63_4 := blk_frozen BK770.out 4
                       have p791 : 0 ≤ (x17_5 : Int) := of_decide_eq_true (by assumption)
                       have q791 : x17_5 < (t759.length : Int) := of_decide_eq_true (by assumption)
                       obtain ⟨ad791, e791, hx791_0, hx791_1⟩ := at_T79 (Kd.R_reads' HO_771000.out).2.2 x17_5 p791 q791
                       obtain rfl : ad789 = ad791 := (by injection e791)
                       replace p791 := eq_true p791
                       replace q791 := eq_true q791
                       go_wp2
                       repeat (go_quiet (fail); try go_wp2)
                       go_meet
                       case rel => exact ⟨_, (false), (by first | rfl | (simp; done) | (simp [*]; done) | (simp [Int.tdiv_eq_ediv_of_nonneg, *]; done)), H', ⟨by have := HJ8.out; have := HK2.out; have := HK3.out; have := HJ45.out; have := HK5.out; first | omega | exact Nat.le_refl _⟩, ⟨by (with_reducible repeat (first | apply Kd.S_alloc | apply Kd.S_drewN | apply Kd.S_drew)); exact HO_6.out⟩, ⟨by (with_reducible repeat (first | apply Kd.R_alloc | apply Kd.R_drewN | apply Kd.R_drew)); exact HO_7.out⟩, ⟨by (with_reducible repeat (first | apply Kd.R_alloc | apply Kd.R_drewN | apply Kd.R_drew)); exact HO_15.out⟩, ⟨by (with_reducible repeat (first | apply Kd.R_alloc | apply Kd.R_drewN | apply Kd.R_drew)); exact HO_771000.out⟩, ⟨by (with_reducible repeat (first | apply Kd.R_alloc | apply Kd.R_drewN | apply Kd.R_drew)); exact HO_771001.out⟩, ⟨by (with_reducible repeat (first | apply Kd.R_alloc | apply Kd.R_drewN | apply Kd.R_drew)); exact HO_771002.out⟩, ⟨by (with_reducible repeat (first | refine blk_drewN ?_ _ | refine blk_drew ?_ | refine blk_alloc ?_ _)); exact BK770.out⟩, ⟨by repeat (first | (with_reducible first | exact HB.out | apply below_alloc | apply pw_below_drewN | apply below_drew1 | refine below_set ?_ GE770.out) | exact HB.out)⟩⟩
                     case rest =>
                      clear HC58
                      try clear c1
                      try clear c2
                      try clear p2
                      try clear c3
                      try clear c4
                      try clear c5
                      try clear c6
                      try clear p6
                      try clear p7
                      try clear q7
                      try clear hx7
                      try clear c8
                      try clear c22
                      try clear c23
                      try clear c23b0
                      try clear c23b1
                      try clear c23b2
                      try clear c25
                      try clear c37
                      try clear c38
                      try clear c38b0
                      try clear c39
                      try clear c39b0
                      try clear c40
                      try clear c40b0
                      try clear c40b1
                      try clear c44
                      try clear c44b0
                      try clear c49
                      try clear c52
                      try clear c53
                      try clear c53b0
                      try clear c54
                      try clear c54b0
                      try clear c55
                      try clear c55b0
                      try clear c56
                      try clear c56b0
                      try clear c57
                      try clear c57b0
                      try clear c61
                      try clear c61b0
                      try clear hcz13_0
                      try clear hcz13_1
                      try clear hcz13_2
                      try clear hcz13_3
                      try clear hcz13_4
                      try clear hcz17_0
                      try clear hcz17_1
                      try clear hcz17_2
                      try clear hcz17_3
                      try clear hcz17_4
                      try clear hcz20_0
                      try clear hcz20_1
                      try clear hcz20_2
                      try clear hcz20_3
                      try clear hcz20_4
                      try clear hcz28_0
                      try clear hcz28_1
                      try clear hcz28_2
                      try clear hcz28_3
                      try clear hcz28_4
                      try clear hcz30_0
                      try clear hcz30_1
                      try clear hcz30_2
                      try clear hcz30_3
                      try clear hcz30_4
                      try clear hcz33_0
                      try clear hcz33_1
                      try clear hcz33_2
                      try clear hcz33_3
                      try clear hcz33_4
                      try clear hcz36_0
                      try clear hcz36_1
                      try clear hcz36_2
                      try clear hcz36_3
                      try clear hcz36_4
                      try clear hcz47_0
                      try clear hcz47_1
                      try clear hcz47_2
                      try clear hcz47_3
                      try clear hcz47_4
                      try clear hcz51_0
                      try clear hcz51_1
                      try clear hcz51_2
                      try clear hcz51_3
                      try clear hcz51_4
                      try clear hcz59_0
                      try clear hcz59_1
                      try clear hcz59_2
                      try clear hcz59_3
                      try clear hcz59_4
                      try clear hcz62_0
                      try clear hcz62_1
                      try clear hcz62_2
                      try clear hcz62_3
                      try clear hcz62_4
                      try clear hcz63_0
                      try clear hcz63_1
                      try clear hcz63_2
                      try clear hcz63_3
                      try clear hcz63_4
                      try clear hfz13_0
                      try clear hfz13_1
                      try clear hfz13_2
                      try clear hfz13_3
                      try clear hfz13_4
                      try clear hfz17_0
                      try clear hfz17_1
                      try clear hfz17_2
                      try clear hfz17_3
                      try clear hfz17_4
                      try clear hfz20_0
                      try clear hfz20_1
                      try clear hfz20_2
                      try clear hfz20_3
                      try clear hfz20_4
                      try clear hfz28_0
                      try clear hfz28_1
                      try clear hfz28_2
                      try clear hfz28_3
                      try clear hfz28_4
                      try clear hfz30_0
                      try clear hfz30_1
                      try clear hfz30_2
                      try clear hfz30_3
                      try clear hfz30_4
                      try clear hfz33_0
                      try clear hfz33_1
                      try clear hfz33_2
                      try clear hfz33_3
                      try clear hfz33_4
                      try clear hfz36_0
                      try clear hfz36_1
                      try clear hfz36_2
                      try clear hfz36_3
                      try clear hfz36_4
                      try clear hfz47_0
                      try clear hfz47_1
                      try clear hfz47_2
                      try clear hfz47_3
                      try clear hfz47_4
                      try clear hfz51_0
                      try clear hfz51_1
                      try clear hfz51_2
                      try clear hfz51_3
                      try clear hfz51_4
                      try clear hfz59_0
                      try clear hfz59_1
                      try clear hfz59_2
                      try clear hfz59_3
                      try clear hfz59_4
                      try clear hfz62_0
                      try clear hfz62_1
                      try clear hfz62_2
                      try clear hfz62_3
                      try clear hfz62_4
                      try clear hfz63_0
                      try clear hfz63_1
                      try clear hfz63_2
                      try clear hfz63_3
                      try clear hfz63_4
                      try clear hx783_0
                      try clear hx788_0
                      try clear hx789_0
                      try clear hx789_1
                      try clear hx790_0
                      try clear hx791_0
                      try clear hx791_1
                      try clear p2
                      try clear p6
                      try clear p7
                      try clear p783
                      try clear p788
                      try clear p789
                      try clear p790
                      try clear p791
                      try clear q7
                      try clear q783
                      try clear q788
                      try clear q789
                      try clear q790
                      try clear q791
                      obtain ⟨kq, x134_57, rfl, HA, HJ57, HO_6, HO_7, HO_15, HO_771000, HO_771001, HO_771002, BK770, HB⟩ := hcut
                      cases kq with
                      | zero => exact absurd HA.out (by simp [laws_FnWorn.j5])
                      | succ kj57 =>
                       have H := HA.out
                       clear HA
                       simp only [laws_FnWorn.j5] at H
                       have HC64 := Aside0.mk H
                       clear H
                       go_upto_if 134 with (fail)
                       repeat (go_quiet (fail); go_upto_if 134 with (fail))
                       go_cut [13] (fun v13 wc => ∃ (kq : Nat) (x13_63 : Bool), v13 = .bool x13_63 ∧ Aside0 (laws_FnWorn.j6 kq t771 x7_3 t778 t779 t780 x13_63 x14_3 t784 x17_5 (wrap64 ((rd x7_3 x17_5) + (wrap64 (((rd_T79 t759 x17_5).f0) * (rd t762 x14_3))))) t759 t762 t765 t768 t769 = some r) ∧ Aside0 (kq ≤ kj57) ∧ Aside0 (Kd.S k94 94 wc w.heap.size (fun k_ => some k_ ≠ ((.slice (some ad788) x7_3.length co60) : Value).ownBlock ∧ some k_ ≠ (v785 : Value).ownBlock ∧ some k_ ≠ ((.slice (some ad790) t762.length co14) : Value).ownBlock ∧ some k_ ≠ ((.slice Ao15 t765.length co15) : Value).ownBlock) (.slice Ao18 t771.length co18) t771) ∧ Aside0 (Kd.R (Kd.int .i64) 2 wc w.heap.size (fun k_ => some k_ ≠ (v785 : Value).ownBlock ∧ some k_ ≠ ((.slice (some ad790) t762.length co14) : Value).ownBlock ∧ some k_ ≠ ((.slice Ao15 t765.length co15) : Value).ownBlock) (.slice (some ad788) x7_3.length co60) x7_3) ∧ Aside0 (Kd.R (Kd.int .i64) 2 wc w.heap.size (fun k_ => some k_ ≠ ((.slice (some ad788) x7_3.length co60) : Value).ownBlock ∧ some k_ ≠ ((.slice (some ad790) t762.length co14) : Value).ownBlock ∧ some k_ ≠ ((.slice Ao15 t765.length co15) : Value).ownBlock) v785 t784) ∧ Aside0 (Kd.R k79 79 wc w.heap.size (fun _ => True) (.slice (some ad789) t759.length co12) t759) ∧ Aside0 (Kd.R (Kd.int .i64) 2 wc w.heap.size (fun k_ => some k_ ≠ ((.slice (some ad788) x7_3.length co60) : Value).ownBlock ∧ some k_ ≠ (v785 : Value).ownBlock ∧ some k_ ≠ ((.slice Ao15 t765.length co15) : Value).ownBlock) (.slice (some ad790) t762.length co14) t762) ∧ Aside0 (Kd.R (Kd.int .i64) 2 wc w.heap.size (fun k_ => some k_ ≠ ((.slice (some ad788) x7_3.length co60) : Value).ownBlock ∧ some k_ ≠ (v785 : Value).ownBlock ∧ some k_ ≠ ((.slice (some ad790) t762.length co14) : Value).ownBlock) (.slice Ao15 t765.length co15) t765) ∧ Aside0 (wc.heap[gb770]? = some (.cells #[(.slice (some ad789) t759.length co12), (.slice (some ad790) t762.length co14), (.slice Ao15 t765.length co15), .int .i64 t768, .int .i64 t769] 64 (0, 0))) ∧ Aside0 (Below w.heap.size w wc))
                       case first =>
                        have H := HC64.out
                        clear HC64
                        by_cases c65 : x134_57 = true
                        ·subst c65
                         have H1 : (if t780 = true then (if t778 = x17_5 then (if t779 = x14_3 then (laws_FnWorn.j6 kj57 t771 x7_3 t778 t779 t780 true x14_3 t784 x17_5 (wrap64 ((rd x7_3 x17_5) + (wrap64 (((rd_T79 t759 x17_5).f0) * (rd t762 x14_3))))) t759 t762 t765 t768 t769) else (some false)) else (some false)) else (some false)) = some r := by rw [if_pos rfl] at H; exact H
                         clear H
                         have H := H1
                         clear H1
                         by_cases c66 : t780 = true
                         ·subst c66
                          have H1 : (if t778 = x17_5 then (if t779 = x14_3 then (laws_FnWorn.j6 kj57 t771 x7_3 t778 t779 true true x14_3 t784 x17_5 (wrap64 ((rd x7_3 x17_5) + (wrap64 (((rd_T79 t759 x17_5).f0) * (rd t762 x14_3))))) t759 t762 t765 t768 t769) else (some false)) else (some false)) = some r := by rw [if_pos rfl] at H; exact H
                          clear H
                          have H := H1
                          clear H1
                          by_cases c67 : t778 = x17_5
                          ·rw [if_pos c67] at H
                           have c67b0 : (t778 == x17_5) = true := beq_iff_eq.mpr c67
                           have c67b1 : (t778 != x17_5) = false := bne_eq_false_iff_eq.mpr c67
                           clear c67
                           (first | rw [c67b0] | (simp only [i64_w, i32_w]; rw [c67b0]) | skip)
                           by_cases c68 : t779 = x14_3
                           ·rw [if_pos c68] at H
                            have c68b0 : (t779 == x14_3) = true := beq_iff_eq.mpr c68
                            have c68b1 : (t779 != x14_3) = false := bne_eq_false_iff_eq.mpr c68
                            clear c68
                            have H' := Aside0.mk H
                            clear H
                            go_wp2
                            repeat (go_quiet (fail); try go_wp2)
                            go_meet
                            case rel => exact ⟨_, (true), (by first | rfl | (simp; done) | (simp [*]; done) | (simp [Int.tdiv_eq_ediv_of_nonneg, *]; done)), H', ⟨by have := HJ8.out; have := HK2.out; have := HK3.out; have := HJ45.out; have := HK5.out; have := HJ57.out; first | omega | exact Nat.le_refl _⟩, ⟨by (with_reducible repeat (first | apply Kd.S_alloc | apply Kd.S_drewN | apply Kd.S_drew)); exact HO_6.out⟩, ⟨by (with_reducible repeat (first | apply Kd.R_alloc | apply Kd.R_drewN | apply Kd.R_drew)); exact HO_7.out⟩, ⟨by (with_reducible repeat (first | apply Kd.R_alloc | apply Kd.R_drewN | apply Kd.R_drew)); exact HO_15.out⟩, ⟨by (with_reducible repeat (first | apply Kd.R_alloc | apply Kd.R_drewN | apply Kd.R_drew)); exact HO_771000.out⟩, ⟨by (with_reducible repeat (first | apply Kd.R_alloc | apply Kd.R_drewN | apply Kd.R_drew)); exact HO_771001.out⟩, ⟨by (with_reducible repeat (first | apply Kd.R_alloc | apply Kd.R_drewN | apply Kd.R_drew)); exact HO_771002.out⟩, ⟨by (with_reducible repeat (first | refine blk_drewN ?_ _ | refine blk_drew ?_ | refine blk_alloc ?_ _)); exact BK770.out⟩, ⟨by repeat (first | (with_reducible first | exact HB.out | apply below_alloc | apply pw_below_drewN | apply below_drew1 | refine below_set ?_ GE770.out) | exact HB.out)⟩⟩
                           ·rw [if_neg c68] at H
                            have c68b0 : (t779 == x14_3) = false := beq_eq_false_iff_ne.mpr c68
                            have c68b1 : (t779 != x14_3) = true := bne_iff_ne.mpr c68
                            obtain rfl := Option.some.inj H
                            go_wp2
                            repeat (go_quiet (fail); try go_wp2)
                            go_ret
                            exact ⟨by first | rfl | (simp [errW_none, errW_some] <;> rfl) | (simp [*, errW_none, errW_some] <;> rfl) | (simp [Int.tdiv_eq_ediv_of_nonneg, *]; done), by repeat (first | (with_reducible first | exact HB.out | apply below_alloc | apply pw_below_drewN | apply below_drew1 | refine below_set ?_ GE770.out) | exact HB.out)⟩
                          ·rw [if_neg c67] at H
                           have c67b0 : (t778 == x17_5) = false := beq_eq_false_iff_ne.mpr c67
                           have c67b1 : (t778 != x17_5) = true := bne_iff_ne.mpr c67
                           (first | rw [c67b0] | (simp only [i64_w, i32_w]; rw [c67b0]) | skip)
                           obtain rfl := Option.some.inj H
                           go_wp2
                           repeat (go_quiet (fail); try go_wp2)
                           go_ret
                           exact ⟨by first | rfl | (simp [errW_none, errW_some] <;> rfl) | (simp [*, errW_none, errW_some] <;> rfl) | (simp [Int.tdiv_eq_ediv_of_nonneg, *]; done), by repeat (first | (with_reducible first | exact HB.out | apply below_alloc | apply pw_below_drewN | apply below_drew1 | refine below_set ?_ GE770.out) | exact HB.out)⟩
                         ·replace c66 := Bool.eq_false_iff.mpr c66
                          subst c66
                          have H1 : (some false) = some r := by rw [if_neg (show ¬ (false = true) by decide)] at H; exact H
                          clear H
                          have H := H1
                          clear H1
                          obtain rfl := Option.some.inj H
                          go_wp2
                          repeat (go_quiet (fail); try go_wp2)
                          go_ret
                          exact ⟨by first | rfl | (simp [errW_none, errW_some] <;> rfl) | (simp [*, errW_none, errW_some] <;> rfl) | (simp [Int.tdiv_eq_ediv_of_nonneg, *]; done), by repeat (first | (with_reducible first | exact HB.out | apply below_alloc | apply pw_below_drewN | apply below_drew1 | refine below_set ?_ GE770.out) | exact HB.out)⟩
                        ·replace c65 := Bool.eq_false_iff.mpr c65
                         subst c65
                         have H1 : (laws_FnWorn.j6 kj57 t771 x7_3 t778 t779 t780 x13_5 x14_3 t784 x17_5 (wrap64 ((rd x7_3 x17_5) + (wrap64 (((rd_T79 t759 x17_5).f0) * (rd t762 x14_3))))) t759 t762 t765 t768 t769) = some r := by rw [if_neg (show ¬ (false = true) by decide)] at H; exact H
                         clear H
                         have H := H1
                         clear H1
                         have H' := Aside0.mk H
                         clear H
                         go_wp2
                         repeat (go_quiet (fail); try go_wp2)
                         go_meet
                         case rel => exact ⟨_, (x13_5), (by first | rfl | (simp; done) | (simp [*]; done) | (simp [Int.tdiv_eq_ediv_of_nonneg, *]; done)), H', ⟨by have := HJ8.out; have := HK2.out; have := HK3.out; have := HJ45.out; have := HK5.out; have := HJ57.out; first | omega | exact Nat.le_refl _⟩, ⟨by (with_reducible repeat (first | apply Kd.S_alloc | apply Kd.S_drewN | apply Kd.S_drew)); exact HO_6.out⟩, ⟨by (with_reducible repeat (first | apply Kd.R_alloc | apply Kd.R_drewN | apply Kd.R_drew)); exact HO_7.out⟩, ⟨by (with_reducible repeat (first | apply Kd.R_alloc | apply Kd.R_drewN | apply Kd.R_drew)); exact HO_15.out⟩, ⟨by (with_reducible repeat (first | apply Kd.R_alloc | apply Kd.R_drewN | apply Kd.R_drew)); exact HO_771000.out⟩, ⟨by (with_reducible repeat (first | apply Kd.R_alloc | apply Kd.R_drewN | apply Kd.R_drew)); exact HO_771001.out⟩, ⟨by (with_reducible repeat (first | apply Kd.R_alloc | apply Kd.R_drewN | apply Kd.R_drew)); exact HO_771002.out⟩, ⟨by (with_reducible repeat (first | refine blk_drewN ?_ _ | refine blk_drew ?_ | refine blk_alloc ?_ _)); exact BK770.out⟩, ⟨by repeat (first | (with_reducible first | exact HB.out | apply below_alloc | apply pw_below_drewN | apply below_drew1 | refine below_set ?_ GE770.out) | exact HB.out)⟩⟩
                       case rest =>
                        clear HC64
                        try clear c1
                        try clear c2
                        try clear p2
                        try clear c3
                        try clear c4
                        try clear c5
                        try clear c6
                        try clear p6
                        try clear p7
                        try clear q7
                        try clear hx7
                        try clear c8
                        try clear c22
                        try clear c23
                        try clear c23b0
                        try clear c23b1
                        try clear c23b2
                        try clear c25
                        try clear c37
                        try clear c38
                        try clear c38b0
                        try clear c39
                        try clear c39b0
                        try clear c40
                        try clear c40b0
                        try clear c40b1
                        try clear c44
                        try clear c44b0
                        try clear c49
                        try clear c52
                        try clear c53
                        try clear c53b0
                        try clear c54
                        try clear c54b0
                        try clear c55
                        try clear c55b0
                        try clear c56
                        try clear c56b0
                        try clear c57
                        try clear c57b0
                        try clear c61
                        try clear c61b0
                        try clear p64
                        try clear c65
                        try clear c66
                        try clear c67
                        try clear c67b0
                        try clear c67b1
                        try clear c68
                        try clear c68b0
                        try clear c68b1
                        try clear hcz13_0
                        try clear hcz13_1
                        try clear hcz13_2
                        try clear hcz13_3
                        try clear hcz13_4
                        try clear hcz17_0
                        try clear hcz17_1
                        try clear hcz17_2
                        try clear hcz17_3
                        try clear hcz17_4
                        try clear hcz20_0
                        try clear hcz20_1
                        try clear hcz20_2
                        try clear hcz20_3
                        try clear hcz20_4
                        try clear hcz28_0
                        try clear hcz28_1
                        try clear hcz28_2
                        try clear hcz28_3
                        try clear hcz28_4
                        try clear hcz30_0
                        try clear hcz30_1
                        try clear hcz30_2
                        try clear hcz30_3
                        try clear hcz30_4
                        try clear hcz33_0
                        try clear hcz33_1
                        try clear hcz33_2
                        try clear hcz33_3
                        try clear hcz33_4
                        try clear hcz36_0
                        try clear hcz36_1
                        try clear hcz36_2
                        try clear hcz36_3
                        try clear hcz36_4
                        try clear hcz47_0
                        try clear hcz47_1
                        try clear hcz47_2
                        try clear hcz47_3
                        try clear hcz47_4
                        try clear hcz51_0
                        try clear hcz51_1
                        try clear hcz51_2
                        try clear hcz51_3
                        try clear hcz51_4
                        try clear hcz59_0
                        try clear hcz59_1
                        try clear hcz59_2
                        try clear hcz59_3
                        try clear hcz59_4
                        try clear hcz62_0
                        try clear hcz62_1
                        try clear hcz62_2
                        try clear hcz62_3
                        try clear hcz62_4
                        try clear hcz63_0
                        try clear hcz63_1
                        try clear hcz63_2
                        try clear hcz63_3
                        try clear hcz63_4
                        try clear hfz13_0
                        try clear hfz13_1
                        try clear hfz13_2
                        try clear hfz13_3
                        try clear hfz13_4
                        try clear hfz17_0
                        try clear hfz17_1
                        try clear hfz17_2
                        try clear hfz17_3
                        try clear hfz17_4
                        try clear hfz20_0
                        try clear hfz20_1
                        try clear hfz20_2
                        try clear hfz20_3
                        try clear hfz20_4
                        try clear hfz28_0
                        try clear hfz28_1
                        try clear hfz28_2
                        try clear hfz28_3
                        try clear hfz28_4
                        try clear hfz30_0
                        try clear hfz30_1
                        try clear hfz30_2
                        try clear hfz30_3
                        try clear hfz30_4
                        try clear hfz33_0
                        try clear hfz33_1
                        try clear hfz33_2
                        try clear hfz33_3
                        try clear hfz33_4
                        try clear hfz36_0
                        try clear hfz36_1
                        try clear hfz36_2
                        try clear hfz36_3
                        try clear hfz36_4
                        try clear hfz47_0
                        try clear hfz47_1
                        try clear hfz47_2
                        try clear hfz47_3
                        try clear hfz47_4
                        try clear hfz51_0
                        try clear hfz51_1
                        try clear hfz51_2
                        try clear hfz51_3
                        try clear hfz51_4
                        try clear hfz59_0
                        try clear hfz59_1
                        try clear hfz59_2
                        try clear hfz59_3
                        try clear hfz59_4
                        try clear hfz62_0
                        try clear hfz62_1
                        try clear hfz62_2
                        try clear hfz62_3
                        try clear hfz62_4
                        try clear hfz63_0
                        try clear hfz63_1
                        try clear hfz63_2
                        try clear hfz63_3
                        try clear hfz63_4
                        try clear hx783_0
                        try clear hx788_0
                        try clear hx789_0
                        try clear hx789_1
                        try clear hx790_0
                        try clear hx791_0
                        try clear hx791_1
                        try clear p2
                        try clear p6
                        try clear p7
                        try clear p783
                        try clear p788
                        try clear p789
                        try clear p790
                        try clear p791
                        try clear q7
                        try clear q783
                        try clear q788
                        try clear q789
                        try clear q790
                        try clear q791
                        obtain ⟨kq, x13_63, rfl, HA, HJ63, HO_6, HO_7, HO_15, HO_771000, HO_771001, HO_771002, BK770, HB⟩ := hcut
                        cases kq with
                        | zero => exact absurd HA.out (by simp [laws_FnWorn.j6])
                        | succ kj63 =>
                         have H := HA.out
                         clear HA
                         simp only [laws_FnWorn.j6] at H
                         replace H := Option.bind_eq_some_iff.mp H
                         obtain ⟨t792, A690, H⟩ := H
                         replace H : (if t792 = true then (if 0 ≤ x17_5 then (if x17_5 < (t784.length : Int) then (if (rd t784 x17_5) = 0 then (laws_FnWorn.l2 kj63 t771 x7_3 t778 t779 t780 x13_63 x14_3 t784 (wrap64 (x17_5 + 1)) t759 t762 t765 t768 t769) else (some false)) else (none)) else (none)) else (if 0 ≤ x17_5 then (if x17_5 < (t784.length : Int) then (if (rd t784 x17_5) = (wrap64 ((rd x7_3 x17_5) + (wrap64 (((rd_T79 t759 x17_5).f0) * (rd t762 x14_3))))) then (laws_FnWorn.l2 kj63 t771 x7_3 t778 t779 t780 x13_63 x14_3 t784 (wrap64 (x17_5 + 1)) t759 t762 t765 t768 t769) else (some false)) else (none)) else (none))) = some r := H
                         have A69 := Aside0.mk A690
                         clear A690
                         by_cases c70 : t792 = true
                         ·subst c70
                          have H1 : (if 0 ≤ x17_5 then (if x17_5 < (t784.length : Int) then (if (rd t784 x17_5) = 0 then (laws_FnWorn.l2 kj63 t771 x7_3 t778 t779 t780 x13_63 x14_3 t784 (wrap64 (x17_5 + 1)) t759 t762 t765 t768 t769) else (some false)) else (none)) else (none)) = some r := by rw [if_pos rfl] at H; exact H
                          clear H
                          have H := H1
                          clear H1
                          by_cases c71 : 0 ≤ x17_5
                          ·rw [if_pos c71] at H
                           have c71b0 : decide (0 ≤ x17_5) = true := decide_eq_true c71
                           clear c71
                           by_cases c72 : x17_5 < (t784.length : Int)
                           ·rw [if_pos c72] at H
                            have c72b0 : decide (x17_5 < (t784.length : Int)) = true := decide_eq_true c72
                            clear c72
                            by_cases c73 : (rd t784 x17_5) = 0
                            ·rw [if_pos c73] at H
                             have c73b0 : ((rd t784 x17_5) == 0) = true := beq_iff_eq.mpr c73
                             have c73b1 : ((rd t784 x17_5) != 0) = false := bne_eq_false_iff_eq.mpr c73
                             clear c73
                             have H' := Aside0.mk H
                             clear H
                             go_wp2_with (first | (go_at_call 52; (with_reducible refine (laws_r8Changes.calls kj63 _ _ t771 x17_5 (wrap64 (x14_3 + 1)) true _ ?side1 ?side2 A69.out).mono ?_); (case side1 => repeat (first | exact (Kd.S_reads' HO_6.out).2.2 | (with_reducible refine Kd.C_alloc ?_ _) | (with_reducible refine Kd.C_drewN ?_ _) | (with_reducible refine Kd.C_drew ?_))); (case side2 => exact (Kd.S_reads' HO_6.out).2.1); rintro e w' ⟨rfl, ⟨nd, rfl⟩⟩; (try first | exact ⟨rfl, _, World.drewN_drewN _ _ _⟩ | exact ⟨rfl, _, Eq.trans (World.drewN_drewN _ _ _) (congrArg (World.drewN _) (Nat.add_assoc _ _ _))⟩); obtain ⟨Ao74, co74, eo74⟩ := Kd.R_slice HO_15.out; subst eo74; have p793 : 0 ≤ (x17_5 : Int) := of_decide_eq_true (by assumption); have q793 : x17_5 < (t784.length : Int) := of_decide_eq_true (by assumption); obtain ⟨ad793, e793, hx793_0⟩ := Kd.at_int (Kd.R_reads' HO_15.out).2.2 x17_5 p793 q793; cases e793; replace p793 := eq_true p793; replace q793 := eq_true q793))
                             repeat (go_quiet (first | (go_at_call 52; (with_reducible refine (laws_r8Changes.calls kj63 _ _ t771 x17_5 (wrap64 (x14_3 + 1)) true _ ?side1 ?side2 A69.out).mono ?_); (case side1 => repeat (first | exact (Kd.S_reads' HO_6.out).2.2 | (with_reducible refine Kd.C_alloc ?_ _) | (with_reducible refine Kd.C_drewN ?_ _) | (with_reducible refine Kd.C_drew ?_))); (case side2 => exact (Kd.S_reads' HO_6.out).2.1); rintro e w' ⟨rfl, ⟨nd, rfl⟩⟩; (try first | exact ⟨rfl, _, World.drewN_drewN _ _ _⟩ | exact ⟨rfl, _, Eq.trans (World.drewN_drewN _ _ _) (congrArg (World.drewN _) (Nat.add_assoc _ _ _))⟩); obtain ⟨Ao74, co74, eo74⟩ := Kd.R_slice HO_15.out; subst eo74; have p793 : 0 ≤ (x17_5 : Int) := of_decide_eq_true (by assumption); have q793 : x17_5 < (t784.length : Int) := of_decide_eq_true (by assumption); obtain ⟨ad793, e793, hx793_0⟩ := Kd.at_int (Kd.R_reads' HO_15.out).2.2 x17_5 p793 q793; cases e793; replace p793 := eq_true p793; replace q793 := eq_true q793)); try go_wp2_with (first | (go_at_call 52; (with_reducible refine (laws_r8Changes.calls kj63 _ _ t771 x17_5 (wrap64 (x14_3 + 1)) true _ ?side1 ?side2 A69.out).mono ?_); (case side1 => repeat (first | exact (Kd.S_reads' HO_6.out).2.2 | (with_reducible refine Kd.C_alloc ?_ _) | (with_reducible refine Kd.C_drewN ?_ _) | (with_reducible refine Kd.C_drew ?_))); (case side2 => exact (Kd.S_reads' HO_6.out).2.1); rintro e w' ⟨rfl, ⟨nd, rfl⟩⟩; (try first | exact ⟨rfl, _, World.drewN_drewN _ _ _⟩ | exact ⟨rfl, _, Eq.trans (World.drewN_drewN _ _ _) (congrArg (World.drewN _) (Nat.add_assoc _ _ _))⟩); obtain ⟨Ao74, co74, eo74⟩ := Kd.R_slice HO_15.out; subst eo74; have p793 : 0 ≤ (x17_5 : Int) := of_decide_eq_true (by assumption); have q793 : x17_5 < (t784.length : Int) := of_decide_eq_true (by assumption); obtain ⟨ad793, e793, hx793_0⟩ := Kd.at_int (Kd.R_reads' HO_15.out).2.2 x17_5 p793 q793; cases e793; replace p793 := eq_true p793; replace q793 := eq_true q793)))
                             go_roundg kj63
                             case measure => have := HJ8.out; have := HK2.out; have := HK3.out; have := HJ45.out; have := HK5.out; have := HJ57.out; have := HJ63.out; omega
                             case rel => exact ⟨(x13_63), (wrap64 (x17_5 + 1)), (by first | rfl | (simp; done) | (simp [*]; done) | (simp [Int.tdiv_eq_ediv_of_nonneg, *]; done)), (by first | rfl | (simp; done) | (simp [*]; done) | (simp [Int.tdiv_eq_ediv_of_nonneg, *]; done)), H', ⟨by have := HJ8.out; have := HK2.out; have := HK3.out; have := HJ45.out; have := HK5.out; have := HJ57.out; have := HJ63.out; omega⟩, ⟨by (with_reducible repeat (first | apply Kd.S_alloc | apply Kd.S_drewN | apply Kd.S_drew)); exact HO_6.out⟩, ⟨by (with_reducible repeat (first | apply Kd.R_alloc | apply Kd.R_drewN | apply Kd.R_drew)); exact HO_7.out⟩, ⟨by (with_reducible repeat (first | apply Kd.R_alloc | apply Kd.R_drewN | apply Kd.R_drew)); exact HO_15.out⟩, ⟨by (with_reducible repeat (first | apply Kd.R_alloc | apply Kd.R_drewN | apply Kd.R_drew)); exact HO_771000.out⟩, ⟨by (with_reducible repeat (first | apply Kd.R_alloc | apply Kd.R_drewN | apply Kd.R_drew)); exact HO_771001.out⟩, ⟨by (with_reducible repeat (first | apply Kd.R_alloc | apply Kd.R_drewN | apply Kd.R_drew)); exact HO_771002.out⟩, ⟨by (with_reducible repeat (first | refine blk_drewN ?_ _ | refine blk_drew ?_ | refine blk_alloc ?_ _)); exact BK770.out⟩, ⟨by repeat (first | (with_reducible first | exact HB.out | apply below_alloc | apply pw_below_drewN | apply below_drew1 | refine below_set ?_ GE770.out) | exact HB.out)⟩⟩
                            ·rw [if_neg c73] at H
                             have c73b0 : ((rd t784 x17_5) == 0) = false := beq_eq_false_iff_ne.mpr c73
                             have c73b1 : ((rd t784 x17_5) != 0) = true := bne_iff_ne.mpr c73
                             obtain rfl := Option.some.inj H
                             go_wp2_with (first | (go_at_call 52; (with_reducible refine (laws_r8Changes.calls kj63 _ _ t771 x17_5 (wrap64 (x14_3 + 1)) true _ ?side1 ?side2 A69.out).mono ?_); (case side1 => repeat (first | exact (Kd.S_reads' HO_6.out).2.2 | (with_reducible refine Kd.C_alloc ?_ _) | (with_reducible refine Kd.C_drewN ?_ _) | (with_reducible refine Kd.C_drew ?_))); (case side2 => exact (Kd.S_reads' HO_6.out).2.1); rintro e w' ⟨rfl, ⟨nd, rfl⟩⟩; (try first | exact ⟨rfl, _, World.drewN_drewN _ _ _⟩ | exact ⟨rfl, _, Eq.trans (World.drewN_drewN _ _ _) (congrArg (World.drewN _) (Nat.add_assoc _ _ _))⟩); obtain ⟨Ao75, co75, eo75⟩ := Kd.R_slice HO_15.out; subst eo75; have p793 : 0 ≤ (x17_5 : Int) := of_decide_eq_true (by assumption); have q793 : x17_5 < (t784.length : Int) := of_decide_eq_true (by assumption); obtain ⟨ad793, e793, hx793_0⟩ := Kd.at_int (Kd.R_reads' HO_15.out).2.2 x17_5 p793 q793; cases e793; replace p793 := eq_true p793; replace q793 := eq_true q793))
                             repeat (go_quiet (first | (go_at_call 52; (with_reducible refine (laws_r8Changes.calls kj63 _ _ t771 x17_5 (wrap64 (x14_3 + 1)) true _ ?side1 ?side2 A69.out).mono ?_); (case side1 => repeat (first | exact (Kd.S_reads' HO_6.out).2.2 | (with_reducible refine Kd.C_alloc ?_ _) | (with_reducible refine Kd.C_drewN ?_ _) | (with_reducible refine Kd.C_drew ?_))); (case side2 => exact (Kd.S_reads' HO_6.out).2.1); rintro e w' ⟨rfl, ⟨nd, rfl⟩⟩; (try first | exact ⟨rfl, _, World.drewN_drewN _ _ _⟩ | exact ⟨rfl, _, Eq.trans (World.drewN_drewN _ _ _) (congrArg (World.drewN _) (Nat.add_assoc _ _ _))⟩); obtain ⟨Ao75, co75, eo75⟩ := Kd.R_slice HO_15.out; subst eo75; have p793 : 0 ≤ (x17_5 : Int) := of_decide_eq_true (by assumption); have q793 : x17_5 < (t784.length : Int) := of_decide_eq_true (by assumption); obtain ⟨ad793, e793, hx793_0⟩ := Kd.at_int (Kd.R_reads' HO_15.out).2.2 x17_5 p793 q793; cases e793; replace p793 := eq_true p793; replace q793 := eq_true q793)); try go_wp2_with (first | (go_at_call 52; (with_reducible refine (laws_r8Changes.calls kj63 _ _ t771 x17_5 (wrap64 (x14_3 + 1)) true _ ?side1 ?side2 A69.out).mono ?_); (case side1 => repeat (first | exact (Kd.S_reads' HO_6.out).2.2 | (with_reducible refine Kd.C_alloc ?_ _) | (with_reducible refine Kd.C_drewN ?_ _) | (with_reducible refine Kd.C_drew ?_))); (case side2 => exact (Kd.S_reads' HO_6.out).2.1); rintro e w' ⟨rfl, ⟨nd, rfl⟩⟩; (try first | exact ⟨rfl, _, World.drewN_drewN _ _ _⟩ | exact ⟨rfl, _, Eq.trans (World.drewN_drewN _ _ _) (congrArg (World.drewN _) (Nat.add_assoc _ _ _))⟩); obtain ⟨Ao75, co75, eo75⟩ := Kd.R_slice HO_15.out; subst eo75; have p793 : 0 ≤ (x17_5 : Int) := of_decide_eq_true (by assumption); have q793 : x17_5 < (t784.length : Int) := of_decide_eq_true (by assumption); obtain ⟨ad793, e793, hx793_0⟩ := Kd.at_int (Kd.R_reads' HO_15.out).2.2 x17_5 p793 q793; cases e793; replace p793 := eq_true p793; replace q793 := eq_true q793)))
                             go_ret
                             exact ⟨by first | rfl | (simp [errW_none, errW_some] <;> rfl) | (simp [*, errW_none, errW_some] <;> rfl) | (simp [Int.tdiv_eq_ediv_of_nonneg, *]; done), by repeat (first | (with_reducible first | exact HB.out | apply below_alloc | apply pw_below_drewN | apply below_drew1 | refine below_set ?_ GE770.out) | exact HB.out)⟩
                           ·rw [if_neg c72] at H
                            exact absurd H (by simp)
                          ·rw [if_neg c71] at H
                           exact absurd H (by simp)
                         ·replace c70 := Bool.eq_false_iff.mpr c70
                          subst c70
                          have H1 : (if 0 ≤ x17_5 then (if x17_5 < (t784.length : Int) then (if (rd t784 x17_5) = (wrap64 ((rd x7_3 x17_5) + (wrap64 (((rd_T79 t759 x17_5).f0) * (rd t762 x14_3))))) then (laws_FnWorn.l2 kj63 t771 x7_3 t778 t779 t780 x13_63 x14_3 t784 (wrap64 (x17_5 + 1)) t759 t762 t765 t768 t769) else (some false)) else (none)) else (none)) = some r := by rw [if_neg (show ¬ (false = true) by decide)] at H; exact H
                          clear H
                          have H := H1
                          clear H1
                          by_cases c76 : 0 ≤ x17_5
                          ·rw [if_pos c76] at H
                           have c76b0 : decide (0 ≤ x17_5) = true := decide_eq_true c76
                           clear c76
                           by_cases c77 : x17_5 < (t784.length : Int)
                           ·rw [if_pos c77] at H
                            have c77b0 : decide (x17_5 < (t784.length : Int)) = true := decide_eq_true c77
                            clear c77
                            by_cases c78 : (rd t784 x17_5) = (wrap64 ((rd x7_3 x17_5) + (wrap64 (((rd_T79 t759 x17_5).f0) * (rd t762 x14_3)))))
                            ·rw [if_pos c78] at H
                             have c78b0 : ((rd t784 x17_5) == (wrap64 ((rd x7_3 x17_5) + (wrap64 (((rd_T79 t759 x17_5).f0) * (rd t762 x14_3)))))) = true := beq_iff_eq.mpr c78
                             have c78b1 : ((rd t784 x17_5) != (wrap64 ((rd x7_3 x17_5) + (wrap64 (((rd_T79 t759 x17_5).f0) * (rd t762 x14_3)))))) = false := bne_eq_false_iff_eq.mpr c78
                             clear c78
                             have H' := Aside0.mk H
                             clear H
                             go_wp2_with (first | (go_at_call 52; (with_reducible refine (laws_r8Changes.calls kj63 _ _ t771 x17_5 (wrap64 (x14_3 + 1)) false _ ?side1 ?side2 A69.out).mono ?_); (case side1 => repeat (first | exact (Kd.S_reads' HO_6.out).2.2 | (with_reducible refine Kd.C_alloc ?_ _) | (with_reducible refine Kd.C_drewN ?_ _) | (with_reducible refine Kd.C_drew ?_))); (case side2 => exact (Kd.S_reads' HO_6.out).2.1); rintro e w' ⟨rfl, ⟨nd, rfl⟩⟩; (try first | exact ⟨rfl, _, World.drewN_drewN _ _ _⟩ | exact ⟨rfl, _, Eq.trans (World.drewN_drewN _ _ _) (congrArg (World.drewN _) (Nat.add_assoc _ _ _))⟩); obtain ⟨Ao79, co79, eo79⟩ := Kd.R_slice HO_15.out; subst eo79; have p794 : 0 ≤ (x17_5 : Int) := of_decide_eq_true (by assumption); have q794 : x17_5 < (t784.length : Int) := of_decide_eq_true (by assumption); obtain ⟨ad794, e794, hx794_0⟩ := Kd.at_int (Kd.R_reads' HO_15.out).2.2 x17_5 p794 q794; cases e794; replace p794 := eq_true p794; replace q794 := eq_true q794))
                             repeat (go_quiet (first | (go_at_call 52; (with_reducible refine (laws_r8Changes.calls kj63 _ _ t771 x17_5 (wrap64 (x14_3 + 1)) false _ ?side1 ?side2 A69.out).mono ?_); (case side1 => repeat (first | exact (Kd.S_reads' HO_6.out).2.2 | (with_reducible refine Kd.C_alloc ?_ _) | (with_reducible refine Kd.C_drewN ?_ _) | (with_reducible refine Kd.C_drew ?_))); (case side2 => exact (Kd.S_reads' HO_6.out).2.1); rintro e w' ⟨rfl, ⟨nd, rfl⟩⟩; (try first | exact ⟨rfl, _, World.drewN_drewN _ _ _⟩ | exact ⟨rfl, _, Eq.trans (World.drewN_drewN _ _ _) (congrArg (World.drewN _) (Nat.add_assoc _ _ _))⟩); obtain ⟨Ao79, co79, eo79⟩ := Kd.R_slice HO_15.out; subst eo79; have p794 : 0 ≤ (x17_5 : Int) := of_decide_eq_true (by assumption); have q794 : x17_5 < (t784.length : Int) := of_decide_eq_true (by assumption); obtain ⟨ad794, e794, hx794_0⟩ := Kd.at_int (Kd.R_reads' HO_15.out).2.2 x17_5 p794 q794; cases e794; replace p794 := eq_true p794; replace q794 := eq_true q794)); try go_wp2_with (first | (go_at_call 52; (with_reducible refine (laws_r8Changes.calls kj63 _ _ t771 x17_5 (wrap64 (x14_3 + 1)) false _ ?side1 ?side2 A69.out).mono ?_); (case side1 => repeat (first | exact (Kd.S_reads' HO_6.out).2.2 | (with_reducible refine Kd.C_alloc ?_ _) | (with_reducible refine Kd.C_drewN ?_ _) | (with_reducible refine Kd.C_drew ?_))); (case side2 => exact (Kd.S_reads' HO_6.out).2.1); rintro e w' ⟨rfl, ⟨nd, rfl⟩⟩; (try first | exact ⟨rfl, _, World.drewN_drewN _ _ _⟩ | exact ⟨rfl, _, Eq.trans (World.drewN_drewN _ _ _) (congrArg (World.drewN _) (Nat.add_assoc _ _ _))⟩); obtain ⟨Ao79, co79, eo79⟩ := Kd.R_slice HO_15.out; subst eo79; have p794 : 0 ≤ (x17_5 : Int) := of_decide_eq_true (by assumption); have q794 : x17_5 < (t784.length : Int) := of_decide_eq_true (by assumption); obtain ⟨ad794, e794, hx794_0⟩ := Kd.at_int (Kd.R_reads' HO_15.out).2.2 x17_5 p794 q794; cases e794; replace p794 := eq_true p794; replace q794 := eq_true q794)))
                             go_roundg kj63
                             case measure => have := HJ8.out; have := HK2.out; have := HK3.out; have := HJ45.out; have := HK5.out; have := HJ57.out; have := HJ63.out; omega
                             case rel => exact ⟨(x13_63), (wrap64 (x17_5 + 1)), (by first | rfl | (simp; done) | (simp [*]; done) | (simp [Int.tdiv_eq_ediv_of_nonneg, *]; done)), (by first | rfl | (simp; done) | (simp [*]; done) | (simp [Int.tdiv_eq_ediv_of_nonneg, *]; done)), H', ⟨by have := HJ8.out; have := HK2.out; have := HK3.out; have := HJ45.out; have := HK5.out; have := HJ57.out; have := HJ63.out; omega⟩, ⟨by (with_reducible repeat (first | apply Kd.S_alloc | apply Kd.S_drewN | apply Kd.S_drew)); exact HO_6.out⟩, ⟨by (with_reducible repeat (first | apply Kd.R_alloc | apply Kd.R_drewN | apply Kd.R_drew)); exact HO_7.out⟩, ⟨by (with_reducible repeat (first | apply Kd.R_alloc | apply Kd.R_drewN | apply Kd.R_drew)); exact HO_15.out⟩, ⟨by (with_reducible repeat (first | apply Kd.R_alloc | apply Kd.R_drewN | apply Kd.R_drew)); exact HO_771000.out⟩, ⟨by (with_reducible repeat (first | apply Kd.R_alloc | apply Kd.R_drewN | apply Kd.R_drew)); exact HO_771001.out⟩, ⟨by (with_reducible repeat (first | apply Kd.R_alloc | apply Kd.R_drewN | apply Kd.R_drew)); exact HO_771002.out⟩, ⟨by (with_reducible repeat (first | refine blk_drewN ?_ _ | refine blk_drew ?_ | refine blk_alloc ?_ _)); exact BK770.out⟩, ⟨by repeat (first | (with_reducible first | exact HB.out | apply below_alloc | apply pw_below_drewN | apply below_drew1 | refine below_set ?_ GE770.out) | exact HB.out)⟩⟩
                            ·rw [if_neg c78] at H
                             have c78b0 : ((rd t784 x17_5) == (wrap64 ((rd x7_3 x17_5) + (wrap64 (((rd_T79 t759 x17_5).f0) * (rd t762 x14_3)))))) = false := beq_eq_false_iff_ne.mpr c78
                             have c78b1 : ((rd t784 x17_5) != (wrap64 ((rd x7_3 x17_5) + (wrap64 (((rd_T79 t759 x17_5).f0) * (rd t762 x14_3)))))) = true := bne_iff_ne.mpr c78
                             obtain rfl := Option.some.inj H
                             go_wp2_with (first | (go_at_call 52; (with_reducible refine (laws_r8Changes.calls kj63 _ _ t771 x17_5 (wrap64 (x14_3 + 1)) false _ ?side1 ?side2 A69.out).mono ?_); (case side1 => repeat (first | exact (Kd.S_reads' HO_6.out).2.2 | (with_reducible refine Kd.C_alloc ?_ _) | (with_reducible refine Kd.C_drewN ?_ _) | (with_reducible refine Kd.C_drew ?_))); (case side2 => exact (Kd.S_reads' HO_6.out).2.1); rintro e w' ⟨rfl, ⟨nd, rfl⟩⟩; (try first | exact ⟨rfl, _, World.drewN_drewN _ _ _⟩ | exact ⟨rfl, _, Eq.trans (World.drewN_drewN _ _ _) (congrArg (World.drewN _) (Nat.add_assoc _ _ _))⟩); obtain ⟨Ao80, co80, eo80⟩ := Kd.R_slice HO_15.out; subst eo80; have p794 : 0 ≤ (x17_5 : Int) := of_decide_eq_true (by assumption); have q794 : x17_5 < (t784.length : Int) := of_decide_eq_true (by assumption); obtain ⟨ad794, e794, hx794_0⟩ := Kd.at_int (Kd.R_reads' HO_15.out).2.2 x17_5 p794 q794; cases e794; replace p794 := eq_true p794; replace q794 := eq_true q794))
                             repeat (go_quiet (first | (go_at_call 52; (with_reducible refine (laws_r8Changes.calls kj63 _ _ t771 x17_5 (wrap64 (x14_3 + 1)) false _ ?side1 ?side2 A69.out).mono ?_); (case side1 => repeat (first | exact (Kd.S_reads' HO_6.out).2.2 | (with_reducible refine Kd.C_alloc ?_ _) | (with_reducible refine Kd.C_drewN ?_ _) | (with_reducible refine Kd.C_drew ?_))); (case side2 => exact (Kd.S_reads' HO_6.out).2.1); rintro e w' ⟨rfl, ⟨nd, rfl⟩⟩; (try first | exact ⟨rfl, _, World.drewN_drewN _ _ _⟩ | exact ⟨rfl, _, Eq.trans (World.drewN_drewN _ _ _) (congrArg (World.drewN _) (Nat.add_assoc _ _ _))⟩); obtain ⟨Ao80, co80, eo80⟩ := Kd.R_slice HO_15.out; subst eo80; have p794 : 0 ≤ (x17_5 : Int) := of_decide_eq_true (by assumption); have q794 : x17_5 < (t784.length : Int) := of_decide_eq_true (by assumption); obtain ⟨ad794, e794, hx794_0⟩ := Kd.at_int (Kd.R_reads' HO_15.out).2.2 x17_5 p794 q794; cases e794; replace p794 := eq_true p794; replace q794 := eq_true q794)); try go_wp2_with (first | (go_at_call 52; (with_reducible refine (laws_r8Changes.calls kj63 _ _ t771 x17_5 (wrap64 (x14_3 + 1)) false _ ?side1 ?side2 A69.out).mono ?_); (case side1 => repeat (first | exact (Kd.S_reads' HO_6.out).2.2 | (with_reducible refine Kd.C_alloc ?_ _) | (with_reducible refine Kd.C_drewN ?_ _) | (with_reducible refine Kd.C_drew ?_))); (case side2 => exact (Kd.S_reads' HO_6.out).2.1); rintro e w' ⟨rfl, ⟨nd, rfl⟩⟩; (try first | exact ⟨rfl, _, World.drewN_drewN _ _ _⟩ | exact ⟨rfl, _, Eq.trans (World.drewN_drewN _ _ _) (congrArg (World.drewN _) (Nat.add_assoc _ _ _))⟩); obtain ⟨Ao80, co80, eo80⟩ := Kd.R_slice HO_15.out; subst eo80; have p794 : 0 ≤ (x17_5 : Int) := of_decide_eq_true (by assumption); have q794 : x17_5 < (t784.length : Int) := of_decide_eq_true (by assumption); obtain ⟨ad794, e794, hx794_0⟩ := Kd.at_int (Kd.R_reads' HO_15.out).2.2 x17_5 p794 q794; cases e794; replace p794 := eq_true p794; replace q794 := eq_true q794)))
                             go_ret
                             exact ⟨by first | rfl | (simp [errW_none, errW_some] <;> rfl) | (simp [*, errW_none, errW_some] <;> rfl) | (simp [Int.tdiv_eq_ediv_of_nonneg, *]; done), by repeat (first | (with_reducible first | exact HB.out | apply below_alloc | apply pw_below_drewN | apply below_drew1 | refine below_set ?_ GE770.out) | exact HB.out)⟩
                           ·rw [if_neg c77] at H
                            exact absurd H (by simp)
                          ·rw [if_neg c76] at H
                           exact absurd H (by simp)
                    ·rw [if_neg c57] at H
                     exact absurd H (by simp)
                   ·rw [if_neg c56] at H
                    exact absurd H (by simp)
                  ·rw [if_neg c55] at H
                   exact absurd H (by simp)
                 ·rw [if_neg c54] at H
                  exact absurd H (by simp)
                ·rw [if_neg c53] at H
                 have c53b0 : decide (x17_5 < (t759.length : Int)) = false := decide_eq_false c53
                 clear c53
                 have H' := Aside0.mk H
                 clear H
                 have hcz81_0 : wr.cell? ⟨gb770, 0, none⟩ = some (.slice Ao12 t759.length co12) := (blk_cell BK770.out 0).trans rfl
                 have hcz81_1 : wr.cell? ⟨gb770, 1, none⟩ = some (.slice Ao14 t762.length co14) := (blk_cell BK770.out 1).trans rfl
                 have hcz81_2 : wr.cell? ⟨gb770, 2, none⟩ = some (.slice Ao15 t765.length co15) := (blk_cell BK770.out 2).trans rfl
                 have hcz81_3 : wr.cell? ⟨gb770, 3, none⟩ = some (.int .i64 t768) := (blk_cell BK770.out 3).trans rfl
                 have hcz81_4 : wr.cell? ⟨gb770, 4, none⟩ = some (.int .i64 t769) := (blk_cell BK770.out 4).trans rfl
                 have hfz81_0 := blk_frozen BK770.out 0
                 have hfz81_1 := blk_frozen BK770.out 1
                 have hfz81_2 := blk_frozen BK770.out 2
                 have hfz81_3 := blk_frozen BK770.out 3
                 have hfz81_4 := blk_frozen BK770.out 4
                 go_wp2
                 repeat (go_quiet (fail); try go_wp2)
                 go_roundg k5
                 case measure => have := HJ8.out; have := HK2.out; have := HK3.out; have := HJ45.out; have := HK5.out; omega
                 case rel => exact ⟨(t784), (x13_5), (wrap64 (x14_3 + 1)), (by first | rfl | (simp; done) | (simp [*]; done) | (simp [Int.tdiv_eq_ediv_of_nonneg, *]; done)), (by first | rfl | (simp; done) | (simp [*]; done) | (simp [Int.tdiv_eq_ediv_of_nonneg, *]; done)), H', ⟨by have := HJ8.out; have := HK2.out; have := HK3.out; have := HJ45.out; have := HK5.out; omega⟩, ⟨by (with_reducible repeat (first | apply Kd.S_alloc | apply Kd.S_drewN | apply Kd.S_drew)); exact Kd.S_mono HO_6.out (fun _ hk => ⟨hk.2.1, ⟨hk.2.2.1, hk.2.2.2⟩⟩)⟩, ⟨by (with_reducible repeat (first | apply Kd.R_alloc | apply Kd.R_drewN | apply Kd.R_drew)); exact Kd.R_mono HO_15.out (fun _ hk => ⟨hk.2.1, hk.2.2⟩)⟩, ⟨by (with_reducible repeat (first | apply Kd.R_alloc | apply Kd.R_drewN | apply Kd.R_drew)); exact HO_771000.out⟩, ⟨by (with_reducible repeat (first | apply Kd.R_alloc | apply Kd.R_drewN | apply Kd.R_drew)); exact Kd.R_mono HO_771001.out (fun _ hk => ⟨hk.2.1, hk.2.2⟩)⟩, ⟨by (with_reducible repeat (first | apply Kd.R_alloc | apply Kd.R_drewN | apply Kd.R_drew)); exact Kd.R_mono HO_771002.out (fun _ hk => ⟨hk.2.1, hk.2.2⟩)⟩, ⟨by (with_reducible repeat (first | refine blk_drewN ?_ _ | refine blk_drew ?_ | refine blk_alloc ?_ _)); exact BK770.out⟩, ⟨by repeat (first | (with_reducible first | exact HB.out | apply below_alloc | apply pw_below_drewN | apply below_drew1 | refine below_set ?_ GE770.out) | exact HB.out)⟩⟩
          ·rw [if_neg c44] at H
           have c44b0 : decide (x14_3 < (t762.length : Int)) = false := decide_eq_false c44
           clear c44
           obtain rfl := Option.some.inj H
           have hcz82_0 : wr.cell? ⟨gb770, 0, none⟩ = some (.slice Ao12 t759.length co12) := (blk_cell BK770.out 0).trans rfl
           have hcz82_1 : wr.cell? ⟨gb770, 1, none⟩ = some (.slice Ao14 t762.length co14) := (blk_cell BK770.out 1).trans rfl
           have hcz82_2 : wr.cell? ⟨gb770, 2, none⟩ = some (.slice Ao15 t765.length co15) := (blk_cell BK770.out 2).trans rfl
           have hcz82_3 : wr.cell? ⟨gb770, 3, none⟩ = some (.int .i64 t768) := (blk_cell BK770.out 3).trans rfl
           have hcz82_4 : wr.cell? ⟨gb770, 4, none⟩ = some (.int .i64 t769) := (blk_cell BK770.out 4).trans rfl
           have hfz82_0 := blk_frozen BK770.out 0
           have hfz82_1 := blk_frozen BK770.out 1
           have hfz82_2 := blk_frozen BK770.out 2
           have hfz82_3 := blk_frozen BK770.out 3
           have hfz82_4 := blk_frozen BK770.out 4
           go_wp2
           repeat (go_quiet (fail); try go_wp2)
           go_ret
           exact ⟨by first | rfl | (simp [errW_none, errW_some] <;> rfl) | (simp [*, errW_none, errW_some] <;> rfl) | (simp [Int.tdiv_eq_ediv_of_nonneg, *]; done), by repeat (first | (with_reducible first | exact HB.out | apply below_alloc | apply pw_below_drewN | apply below_drew1 | refine below_set ?_ GE770.out) | exact HB.out)⟩

/-- THE ONE PURE STATEMENT of laws_FnWorn: yours. -/
def laws_FnWorn.Pure : Prop := ∀ (l0 : List Int) (l1 : List Int), l0.length ≤ maxLen → l0.length * 1 ≤ 140737488351232 → (∀ x ∈ l0, (Lit.int .u8 x).wf = true) → l1.length ≤ maxLen → l1.length * 1 ≤ 140737488351232 → (∀ x ∈ l1, (Lit.int .u8 x).wf = true) → ∃ k, laws_FnWorn.f k l0 l1 = some true
theorem laws_FnWorn.walk (P : laws_FnWorn.Pure) (a0 : Option Addr) (len0 cap0 : Nat) (z0 : List Int) (a1 : Option Addr) (len1 cap1 : Nat) (z1 : List Int) (w : World) (w0 : (a0 = none ∧ len0 = 0 ∧ cap0 = 0 ∧ z0 = []) ∨ ∃ x, a0 = some x ∧ len0 ≤ cap0 ∧ cap0 ≤ maxLen ∧ z0.length = cap0 ∧ (∀ i, i < z0.length → w.cell? (x.add i) = some (.int .u8 (z0.getD i 0))) ∧ ∀ n ∈ z0, (Lit.int .u8 n).wf = true) (y0 : len0 * 1 ≤ 140737488351232) (w1 : (a1 = none ∧ len1 = 0 ∧ cap1 = 0 ∧ z1 = []) ∨ ∃ x, a1 = some x ∧ len1 ≤ cap1 ∧ cap1 ≤ maxLen ∧ z1.length = cap1 ∧ (∀ i, i < z1.length → w.cell? (x.add i) = some (.int .u8 (z1.getD i 0))) ∧ ∀ n ∈ z1, (Lit.int .u8 n).wf = true) (y1 : len1 * 1 ≤ 140737488351232) :
  Calls Try.prog 8 #[.slice a0 len0 cap0, .slice a1 len1 cap1] w fun e w' => e = .returned (.bool true) ∧ Below w.heap.size w w' := by
 obtain ⟨l0, rfl, hr0, hm0, hw0, hc0⟩ := ReadsInt.ofRowC w0
 obtain ⟨l1, rfl, hr1, hm1, hw1, hc1⟩ := ReadsInt.ofRowC w1
 obtain ⟨k, h⟩ := P l0 l1 hm0 y0 hw0 hm1 y1 hw1
 refine (laws_FnWorn.calls k _ _ l0 _ _ l1 true w (Kd.C_of_reads (d := (0 : Int)) (h1 := fun _ => rfl) hr0) hc0 (Kd.C_of_reads (d := (0 : Int)) (h1 := fun _ => rfl) hr1) hc1 h).mono ?_
 rintro e w' ⟨rfl, hd⟩
 exact ⟨rfl, hd⟩

end Go.Proofs.Ytajndapolblhmab.P
/- A test at each of some numbers that follow one another. -/
namespace Go.Proofs.Ytajndapolblhmab.P
open Go.RowKit Go.Proofs.Ytajndapolblhmab.P Go.Proofs.YtajndapolblhmabW.PrintWords Go.Proofs.YtajndapolblhmabW.PrintLast Go.Proofs.YtajndapolblhmabW.PrintMore
set_option linter.unusedVariables false
set_option linter.unusedSimpArgs false
def upTo (p : Nat → Bool) : Nat → Nat → Bool
  | 0, _ => true
  | d + 1, i => p i && upTo p d (i + 1)
theorem upTo_iff (p : Nat → Bool) : ∀ (d i : Nat), upTo p d i = true ↔ ∀ j, i ≤ j → j < i + d → p j = true := by
  intro d
  induction d with
  | zero => intro i; simp [upTo]; intro j h1 h2; omega
  | succ d ih =>
    intro i
    simp only [upTo, Bool.and_eq_true, ih]
    constructor
    · intro ⟨h0, h⟩ j h1 h2
      by_cases e : i = j
      · rw [← e]; exact h0
      · exact h j (by omega) (by omega)
    · intro h
      exact ⟨h i (Nat.le_refl _) (by omega), fun j h1 h2 => h j (by omega) (by omega)⟩

end Go.Proofs.Ytajndapolblhmab.P
/- Numbers in a range that rise. -/
namespace Go.Proofs.Ytajndapolblhmab.P
open Go.RowKit Go.Proofs.Ytajndapolblhmab.P Go.Proofs.YtajndapolblhmabW.PrintWords Go.Proofs.YtajndapolblhmabW.PrintLast Go.Proofs.YtajndapolblhmabW.PrintMore
set_option linter.unusedVariables false
set_option linter.unusedSimpArgs false
def riseOk (l : List Int) (lo hi : Int) (i : Nat) : Bool := decide (lo ≤ rd l i ∧ rd l i ≤ hi) && (decide (i = 0) || decide (rd l ((i - 1 : Nat) : Int) < rd l i))
def rises (l : List Int) (lo hi : Int) : Bool := upTo (riseOk l lo hi) l.length 0

end Go.Proofs.Ytajndapolblhmab.P
/- What is asked of a head. -/
namespace Go.Proofs.Ytajndapolblhmab.P
open Go.RowKit Go.Proofs.Ytajndapolblhmab.P Go.Proofs.YtajndapolblhmabW.PrintWords Go.Proofs.YtajndapolblhmabW.PrintLast Go.Proofs.YtajndapolblhmabW.PrintMore
set_option linter.unusedVariables false
set_option linter.unusedSimpArgs false
def cuOk (cs : List S79) (i : Nat) : Bool := decide (1 ≤ (rd_T79 cs i).f0 ∧ (rd_T79 cs i).f0 ≤ 100) && decide (1 ≤ (rd_T79 cs i).f1 ∧ (rd_T79 cs i).f1 ≤ 1000000)
def hdOk (cs : List S79) (fc st : List Int) (x y : Int) : Bool :=
  decide (1 ≤ (cs.length : Int) ∧ (cs.length : Int) ≤ 5) && (decide ((fc.length : Int) ≤ 60) && (decide ((st.length : Int) ≤ 8) && (rises st 0 (wrap64 ((fc.length : Int) - 1)) && (upTo (cuOk cs) cs.length 0 && (impl_areWithin.all 0 100 fc && (decide (0 ≤ x ∧ x ≤ 10000) && decide (0 ≤ y ∧ y ≤ 10000)))))))

end Go.Proofs.Ytajndapolblhmab.P
/- How far a cutter lasts, plainly. -/
namespace Go.Proofs.Ytajndapolblhmab.P
open Go.RowKit Go.Proofs.Ytajndapolblhmab.P Go.Proofs.YtajndapolblhmabW.PrintWords Go.Proofs.YtajndapolblhmabW.PrintLast Go.Proofs.YtajndapolblhmabW.PrintMore
set_option linter.unusedVariables false
set_option linter.unusedSimpArgs false
def reachGo (ax lim : Int) (fc : List Int) : Nat → Nat → Int → Nat
  | 0, i, _ => i
  | d + 1, i, s => if wrap64 (s + wrap64 (ax * rd fc (i : Int))) > lim then i else reachGo ax lim fc d (i + 1) (wrap64 (s + wrap64 (ax * rd fc (i : Int))))
def reachOf (cs : List S79) (fc : List Int) (a b : Nat) (s : Int) : Nat := reachGo (rd_T79 cs (a : Int)).f0 (rd_T79 cs (a : Int)).f1 fc (fc.length - b) b s
end Go.Proofs.Ytajndapolblhmab.P
/- The stints of a cutter, plainly. -/
namespace Go.Proofs.Ytajndapolblhmab.P
open Go.RowKit Go.Proofs.Ytajndapolblhmab.P Go.Proofs.YtajndapolblhmabW.PrintWords Go.Proofs.YtajndapolblhmabW.PrintLast Go.Proofs.YtajndapolblhmabW.PrintMore
set_option linter.unusedVariables false
set_option linter.unusedSimpArgs false
def nextOf (st : List Int) (b t : Int) : Nat → Nat → Int → Int
  | 0, _, c => c
  | d + 1, i, c => nextOf st b t d (i + 1) (if rd st (i : Int) > b then (if rd st (i : Int) ≤ t then rd st (i : Int) else c) else c)
def stintsGo (cs : List S79) (fc st : List Int) (a : Nat) : Nat → Nat → List (List Int) → List (List Int) × Bool
  | 0, _, _ => ([], false)
  | d + 1, b, acc => if ((reachOf cs fc a b 0 : Nat) : Int) = (fc.length : Int) then (acc, true) else
      if nextOf st b (reachOf cs fc a b 0 : Nat) st.length 0 (-1) < 0 then ([], false) else
      stintsGo cs fc st a d (nextOf st b (reachOf cs fc a b 0 : Nat) st.length 0 (-1)).toNat (acc ++ [[(b : Int), ((reachOf cs fc a b 0 : Nat) : Int)]])
def stints (cs : List S79) (fc st : List Int) (a : Nat) : List (List Int) × Bool := stintsGo cs fc st a (fc.length + 1) 0 []
end Go.Proofs.Ytajndapolblhmab.P
/- The bound on a head's cost, plainly. -/
namespace Go.Proofs.Ytajndapolblhmab.P
open Go.RowKit Go.Proofs.Ytajndapolblhmab.P Go.Proofs.YtajndapolblhmabW.PrintWords Go.Proofs.YtajndapolblhmabW.PrintLast Go.Proofs.YtajndapolblhmabW.PrintMore
set_option linter.unusedVariables false
set_option linter.unusedSimpArgs false
theorem hdOk_in {cs : List S79} {fc st : List Int} {x y : Int} (h : hdOk cs fc st x y = true) : cs.length ≤ 5 ∧ fc.length ≤ 60 ∧ st.length ≤ 8 ∧ (0 ≤ x ∧ x ≤ 10000) ∧ (0 ≤ y ∧ y ≤ 10000) := by
  unfold hdOk at h
  simp only [Bool.and_eq_true, decide_eq_true_eq] at h
  obtain ⟨h1, h2, h3, _, _, _, h4, h5⟩ := h
  exact ⟨by omega, by omega, by omega, h4, h5⟩

end Go.Proofs.Ytajndapolblhmab.P
/- Plain facts on numbers and lists that every loop's lemma uses. -/
namespace Go.Proofs.Ytajndapolblhmab.P
open Go.RowKit Go.Proofs.Ytajndapolblhmab.P Go.Proofs.YtajndapolblhmabW.PrintWords Go.Proofs.YtajndapolblhmabW.PrintLast Go.Proofs.YtajndapolblhmabW.PrintMore
set_option linter.unusedVariables false
set_option linter.unusedSimpArgs false
theorem w64 (x : Int) (h1 : -9223372036854775808 ≤ x) (h2 : x ≤ 9223372036854775807) : wrap64 x = x := by unfold wrap64; omega
theorem w64s (i : Nat) (h : i < 9223372036854775807) : wrap64 ((i : Int) + 1) = ((i + 1 : Nat) : Int) := by unfold wrap64; omega
theorem wfu8 {x : Int} (h : (Lit.int .u8 x).wf = true) : 0 ≤ x ∧ x ≤ 255 := by
  simp only [Lit.wf, IntKind.min, IntKind.max, IntKind.signed, IntKind.bits, Bool.and_eq_true, decide_eq_true_eq] at h
  simp at h
  omega
theorem rd_at (l : List Int) (i : Nat) (h : i < l.length) : rd l (i : Int) = l[i] := by
  unfold rd
  rw [Int.toNat_natCast, List.getD_eq_getElem?_getD, List.getElem?_eq_getElem h]
  rfl
theorem drop_at (l : List Int) (i : Nat) (h : i < l.length) : l.drop i = rd l (i : Int) :: l.drop (i + 1) := by
  rw [rd_at l i h, List.drop_eq_getElem_cons h]
theorem bind_some_ {α β : Type} (a : α) (f : α → Option β) : (some a).bind f = f a := rfl
theorem ite_tt (b r : Bool) : (if b = true then some r else some false) = some (b && r) := by cases b <;> rfl
theorem ite_ff (p : Prop) [Decidable p] (r : Bool) : (if p then some false else some r) = some (!decide p && r) := by by_cases h : p <;> simp [h]
theorem ite_pp (p : Prop) [Decidable p] (r : Bool) : (if p then some r else some false) = some (decide p && r) := by by_cases h : p <;> simp [h]
theorem not_ge_dec (a b : Int) : (!decide (a ≥ b)) = decide (a < b) := by by_cases h : a < b <;> simp [h] <;> omega

end Go.Proofs.Ytajndapolblhmab.P
/- A number is in a list, as another law asks it. -/
namespace Go.Proofs.Ytajndapolblhmab.P
open Go.RowKit Go.Proofs.Ytajndapolblhmab.P Go.Proofs.YtajndapolblhmabW.PrintWords Go.Proofs.YtajndapolblhmabW.PrintLast Go.Proofs.YtajndapolblhmabW.PrintMore
set_option linter.unusedVariables false
set_option linter.unusedSimpArgs false
theorem r8Has_loop (l : List Int) (n : Int) (hb : l.length ≤ 9223372036854775806) : ∀ (d k i : Nat), i + d = l.length → d < k → laws_r8Has.l0 k l n i = some (decide (n ∈ l.drop i)) := by
  intro d
  induction d with
  | zero =>
    intro k i hi hk
    obtain ⟨k, rfl⟩ : ∃ m, k = m + 1 := ⟨k - 1, by omega⟩
    simp only [laws_r8Has.l0]
    rw [if_neg (by omega), List.drop_of_length_le (by omega)]
    simp
  | succ d ih =>
    intro k i hi hk
    obtain ⟨k, rfl⟩ : ∃ m, k = m + 1 := ⟨k - 1, by omega⟩
    simp only [laws_r8Has.l0]
    rw [if_pos (by omega), if_pos (by omega), w64s i (by omega), ih k (i + 1) (by omega) (by omega), drop_at l i (by omega)]
    by_cases h : rd l i = n
    · rw [if_pos h]; simp [h]
    · rw [if_neg h]
      have h2 : ¬ n = rd l i := fun e => h e.symm
      simp [h2]
theorem r8Has_is (k : Nat) (l : List Int) (n : Int) (hb : l.length ≤ 9223372036854775806) (hk : l.length < k) : laws_r8Has.f k l n = some (decide (n ∈ l)) := by
  unfold laws_r8Has.f
  have := r8Has_loop l n hb l.length k 0 (by omega) hk
  simpa using this

end Go.Proofs.Ytajndapolblhmab.P
namespace Go.Proofs.Ytajndapolblhmab.P
open Go.RowKit Go.Proofs.YtajndapolblhmabW.PrintWords Go.Proofs.YtajndapolblhmabW.PrintLast Go.Proofs.YtajndapolblhmabW.PrintMore
attribute [local go_sem] max2_int min2_int max_two min_two max_three min_three max_four min_four   -- for this text's walks alone
set_option linter.unusedVariables false
set_option linter.unusedSimpArgs false

end Go.Proofs.Ytajndapolblhmab.P
/- Two lists of numbers are compared. -/
namespace Go.Proofs.Ytajndapolblhmab.P
open Go.RowKit Go.Proofs.Ytajndapolblhmab.P Go.Proofs.YtajndapolblhmabW.PrintWords Go.Proofs.YtajndapolblhmabW.PrintLast Go.Proofs.YtajndapolblhmabW.PrintMore
set_option linter.unusedVariables false
set_option linter.unusedSimpArgs false
end Go.Proofs.Ytajndapolblhmab.P
namespace Go.Proofs.Ytajndapolblhmab.P
open Go.RowKit Go.Proofs.YtajndapolblhmabW.PrintWords Go.Proofs.YtajndapolblhmabW.PrintLast Go.Proofs.YtajndapolblhmabW.PrintMore
attribute [local go_sem] max2_int min2_int max_two min_two max_three min_three max_four min_four   -- for this text's walks alone
set_option linter.unusedVariables false
set_option linter.unusedSimpArgs false

end Go.Proofs.Ytajndapolblhmab.P
/- A list of numbers is copied. -/
namespace Go.Proofs.Ytajndapolblhmab.P
open Go.RowKit Go.Proofs.Ytajndapolblhmab.P Go.Proofs.YtajndapolblhmabW.PrintWords Go.Proofs.YtajndapolblhmabW.PrintLast Go.Proofs.YtajndapolblhmabW.PrintMore
set_option linter.unusedVariables false
set_option linter.unusedSimpArgs false
end Go.Proofs.Ytajndapolblhmab.P
namespace Go.Proofs.Ytajndapolblhmab.P
open Go.RowKit Go.Proofs.YtajndapolblhmabW.PrintWords Go.Proofs.YtajndapolblhmabW.PrintLast Go.Proofs.YtajndapolblhmabW.PrintMore
attribute [local go_sem] max2_int min2_int max_two min_two max_three min_three max_four min_four   -- for this text's walks alone
set_option linter.unusedVariables false
set_option linter.unusedSimpArgs false

def spec_l00In.f (a0 : Int) (a1 : Int) (a2 : Int) : Option (Bool) := if a0 ≥ a1 then (some (decide (a0 ≤ a2))) else (some false)
end Go.Proofs.Ytajndapolblhmab.P
namespace Go.Proofs.Ytajndapolblhmab.P
open Go.RowKit Go.Proofs.YtajndapolblhmabW.PrintWords Go.Proofs.YtajndapolblhmabW.PrintLast Go.Proofs.YtajndapolblhmabW.PrintMore
attribute [local go_sem] max2_int min2_int max_two min_two max_three min_three max_four min_four   -- for this text's walks alone
set_option linter.unusedVariables false
set_option linter.unusedSimpArgs false

end Go.Proofs.Ytajndapolblhmab.P
namespace Go.Proofs.Ytajndapolblhmab.P
open Go.RowKit Go.Proofs.YtajndapolblhmabW.PrintWords Go.Proofs.YtajndapolblhmabW.PrintLast Go.Proofs.YtajndapolblhmabW.PrintMore
attribute [local go_sem] max2_int min2_int max_two min_two max_three min_three max_four min_four   -- for this text's walks alone
set_option linter.unusedVariables false
set_option linter.unusedSimpArgs false

end Go.Proofs.Ytajndapolblhmab.P
namespace Go.Proofs.Ytajndapolblhmab.P
open Go.RowKit Go.Proofs.YtajndapolblhmabW.PrintWords Go.Proofs.YtajndapolblhmabW.PrintLast Go.Proofs.YtajndapolblhmabW.PrintMore
attribute [local go_sem] max2_int min2_int max_two min_two max_three min_three max_four min_four   -- for this text's walks alone
set_option linter.unusedVariables false
set_option linter.unusedSimpArgs false

mutual
def spec_l08Is.j0 : Nat → Bool → List (S79) → List Int → List Int → Int → Int → Option (Bool)
 | 0, _, _, _, _, _, _ => none
 | k + 1, x39, x1000, x1001, x1002, x1003, x1004 => if x39 = true then (some false) else (spec_l08Is.l0 k 0 x1000 x1001 x1002 x1003 x1004)
def spec_l08Is.l0 : Nat → Int → List (S79) → List Int → List Int → Int → Int → Option (Bool)
 | 0, _, _, _, _, _, _ => none
 | k + 1, x4, x1000, x1001, x1002, x1003, x1004 => if x4 < (x1000.length : Int) then (if 0 ≤ x4 then ((spec_l00In.f ((rd_T79 x1000 x4).f0) 1 100).bind fun t472 => (if t472 = true then ((spec_l00In.f ((rd_T79 x1000 x4).f1) 1 1000000).bind fun t474 => (if t474 = true then (spec_l08Is.l0 k (wrap64 (x4 + 1)) x1000 x1001 x1002 x1003 x1004) else (some false))) else (some false))) else (none)) else (spec_l08Is.l1 k 0 x1000 x1001 x1002 x1003 x1004)
def spec_l08Is.l1 : Nat → Int → List (S79) → List Int → List Int → Int → Int → Option (Bool)
 | 0, _, _, _, _, _, _ => none
 | k + 1, x5, x1000, x1001, x1002, x1003, x1004 => if x5 < (x1001.length : Int) then (if 0 ≤ x5 then ((spec_l00In.f (rd x1001 x5) 0 100).bind fun t476 => (if t476 = true then (spec_l08Is.l1 k (wrap64 (x5 + 1)) x1000 x1001 x1002 x1003 x1004) else (some false))) else (none)) else ((spec_l00In.f x1003 0 10000).bind fun t477 => (if t477 = true then ((spec_l00In.f x1004 0 10000).bind fun t478 => (some t478)) else (some false)))
end
end Go.Proofs.Ytajndapolblhmab.P
namespace Go.Proofs.Ytajndapolblhmab.P
open Go.RowKit Go.Proofs.YtajndapolblhmabW.PrintWords Go.Proofs.YtajndapolblhmabW.PrintLast Go.Proofs.YtajndapolblhmabW.PrintMore
attribute [local go_sem] max2_int min2_int max_two min_two max_three min_three max_four min_four   -- for this text's walks alone
set_option linter.unusedVariables false
set_option linter.unusedSimpArgs false

end Go.Proofs.Ytajndapolblhmab.P
namespace Go.Proofs.Ytajndapolblhmab.P
open Go.RowKit Go.Proofs.YtajndapolblhmabW.PrintWords Go.Proofs.YtajndapolblhmabW.PrintLast Go.Proofs.YtajndapolblhmabW.PrintMore
attribute [local go_sem] max2_int min2_int max_two min_two max_three min_three max_four min_four   -- for this text's walks alone
set_option linter.unusedVariables false
set_option linter.unusedSimpArgs false

end Go.Proofs.Ytajndapolblhmab.P
/- A list of the law's own structs that hold lists is copied into the program's, measured, and equal to itself. -/
namespace Go.Proofs.Ytajndapolblhmab.P
open Go.RowKit Go.Proofs.Ytajndapolblhmab.P Go.Proofs.YtajndapolblhmabW.PrintWords Go.Proofs.YtajndapolblhmabW.PrintLast Go.Proofs.YtajndapolblhmabW.PrintMore
set_option linter.unusedVariables false
set_option linter.unusedSimpArgs false
theorem rdStop_at (l : List S94) (i : Nat) (h : i < l.length) : rd_T94 l (i : Int) = l[i] := by
  unfold rd_T94
  rw [Int.toNat_natCast, List.getD_eq_getElem?_getD, List.getElem?_eq_getElem h]
  rfl
def shortS (l : List S94) : Prop := l.length ≤ 1048576 ∧ ∀ s ∈ l, s.f1.length ≤ 1048576
theorem shortS_at {l : List S94} (h : shortS l) (i : Nat) (hi : i < l.length) : (rd_T94 l (i : Int)).f1.length ≤ 1048576 := by
  rw [rdStop_at l i hi]
  exact h.2 _ (List.getElem_mem hi)
end Go.Proofs.Ytajndapolblhmab.P
/- What is asked of a plan. -/
namespace Go.Proofs.Ytajndapolblhmab.P
open Go.RowKit Go.Proofs.Ytajndapolblhmab.P Go.Proofs.YtajndapolblhmabW.PrintWords Go.Proofs.YtajndapolblhmabW.PrintLast Go.Proofs.YtajndapolblhmabW.PrintMore
set_option linter.unusedVariables false
set_option linter.unusedSimpArgs false
def stopOk (n : Nat) (st : List Int) (p : List S94) (i : Nat) : Bool :=
  decide ((rd_T94 p (i : Int)).f0 ∈ st) && (!decide (((rd_T94 p (i : Int)).f1.length : Int) = 0) && (rises (rd_T94 p (i : Int)).f1 0 (wrap64 ((n : Int) - 1)) && (decide (i = 0) || decide ((rd_T94 p ((i - 1 : Nat) : Int)).f0 < (rd_T94 p (i : Int)).f0))))
def planOk (n : Nat) (st : List Int) (p : List S94) : Bool := upTo (stopOk n st p) p.length 0
theorem ite_fc (p : Prop) [Decidable p] (o : Option Bool) (b : Bool) (h : o = some b) : (if p then some false else o) = some (!decide p && b) := by by_cases hp : p <;> simp [hp, h]
theorem ite_tc (c : Bool) (o : Option Bool) (b : Bool) (h : o = some b) : (if c = true then o else some false) = some (c && b) := by cases c <;> simp [h]

end Go.Proofs.Ytajndapolblhmab.P
/- How worn the cutters are, plainly. -/
namespace Go.Proofs.Ytajndapolblhmab.P
open Go.RowKit Go.Proofs.Ytajndapolblhmab.P Go.Proofs.YtajndapolblhmabW.PrintWords Go.Proofs.YtajndapolblhmabW.PrintLast Go.Proofs.YtajndapolblhmabW.PrintMore
set_option linter.unusedVariables false
set_option linter.unusedSimpArgs false
theorem rises_mem {l : List Int} {lo hi : Int} (h : rises l lo hi = true) : ∀ c ∈ l, lo ≤ c ∧ c ≤ hi := by
  intro c hc
  obtain ⟨i, hi, rfl⟩ := List.getElem_of_mem hc
  unfold rises at h
  have h2 := (upTo_iff _ _ _).mp h i (by omega) (by omega)
  simp only [riseOk, Bool.and_eq_true, decide_eq_true_eq] at h2
  rw [rd_at l i hi] at h2
  exact h2.1
theorem hd_cut {cs : List S79} {fc st : List Int} {x y : Int} (h : hdOk cs fc st x y = true) (i : Nat) (hi : i < cs.length) : (1 ≤ (rd_T79 cs i).f0 ∧ (rd_T79 cs i).f0 ≤ 100) ∧ (1 ≤ (rd_T79 cs i).f1 ∧ (rd_T79 cs i).f1 ≤ 1000000) := by
  unfold hdOk at h
  simp only [Bool.and_eq_true, decide_eq_true_eq] at h
  have h2 := (upTo_iff _ _ _).mp h.2.2.2.2.1 i (by omega) (by omega)
  simpa only [cuOk, Bool.and_eq_true, decide_eq_true_eq] using h2
theorem hd_hard {cs : List S79} {fc st : List Int} {x y : Int} (h : hdOk cs fc st x y = true) (i : Nat) (hi : i < fc.length) : 0 ≤ rd fc (i : Int) ∧ rd fc (i : Int) ≤ 100 := by
  unfold hdOk impl_areWithin.all at h
  simp only [Bool.and_eq_true, decide_eq_true_eq, List.all_eq_true] at h
  rw [rd_at fc i hi]
  exact h.2.2.2.2.2.1 _ (List.getElem_mem hi)
theorem mul100 (a b : Int) (ha : 0 ≤ a ∧ a ≤ 100) (hb : 0 ≤ b ∧ b ≤ 100) : 0 ≤ a * b ∧ a * b ≤ 10000 := by
  constructor
  · exact Int.mul_nonneg ha.1 hb.1
  · have h1 : a * b ≤ 100 * b := Int.mul_le_mul_of_nonneg_right ha.2 hb.1
    omega
def chg (p : List S94) (c n : Int) : Bool := p.any fun s => decide (s.f0 = n) && decide (c ∈ s.f1)
def wearStep (cs : List S79) (fc : List Int) (c n : Nat) : Int := (rd_T79 cs (c : Int)).f0 * rd fc (n : Int)
def wearP (cs : List S79) (fc : List Int) (p : List S94) (c : Nat) : Nat → Int
  | 0 => 0
  | n + 1 => if chg p c ((n + 1 : Nat) : Int) = true then 0 else wearP cs fc p c n + wearStep cs fc c n
def wearIn (cs : List S79) (fc : List Int) (p : List S94) (c : Nat) : Nat → Int
  | 0 => 0
  | n + 1 => wearP cs fc p c n + wearStep cs fc c n
theorem wearP_eq (cs : List S79) (fc : List Int) (p : List S94) (c n : Nat) : wearP cs fc p c n = if chg p c (n : Int) = true then 0 else wearIn cs fc p c n := by
  cases n with
  | zero => simp [wearP, wearIn]
  | succ n => rfl
theorem step_in {cs : List S79} {fc st : List Int} {x y : Int} (h : hdOk cs fc st x y = true) (c n : Nat) (hc : c < cs.length) (hn : n < fc.length) : 0 ≤ wearStep cs fc c n ∧ wearStep cs fc c n ≤ 10000 := by
  have h1 := (hd_cut h c hc).1
  have h2 := hd_hard h n hn
  exact mul100 _ _ ⟨by omega, h1.2⟩ h2
theorem wearP_in {cs : List S79} {fc st : List Int} {x y : Int} (p : List S94) (h : hdOk cs fc st x y = true) (c : Nat) (hc : c < cs.length) : ∀ n : Nat, n ≤ fc.length → 0 ≤ wearP cs fc p c n ∧ wearP cs fc p c n ≤ 10000 * n
  | 0, _ => by simp [wearP]
  | n + 1, hn => by
    have h1 := wearP_in p h c hc n (by omega)
    have h2 := step_in h c n hc (by omega)
    simp only [wearP]
    split <;> omega
def planIn (n : Nat) (p : List S94) : Prop := shortS p ∧ ∀ s ∈ p, ∀ c ∈ s.f1, 0 ≤ c ∧ c < n
theorem planOk_in {n : Nat} {st : List Int} {p : List S94} (hn : n ≤ 1048576) (hp : shortS p) (h : planOk n st p = true) : planIn n p := by
  refine ⟨hp, ?_⟩
  intro s hs c hc
  obtain ⟨i, hi, rfl⟩ := List.getElem_of_mem hs
  unfold planOk at h
  have h2 := (upTo_iff _ _ _).mp h i (by omega) (by omega)
  simp only [stopOk, Bool.and_eq_true] at h2
  have h3 := rises_mem h2.2.2.1
  rw [rdStop_at p i hi] at h3
  have h4 := h3 c hc
  rw [w64 _ (by omega) (by omega)] at h4
  omega
def failC (cs : List S79) (fc : List Int) (p : List S94) (n : Nat) : Nat → Nat → Option Nat
  | 0, _ => none
  | d + 1, c => if wearP cs fc p c n + wearStep cs fc c n > (rd_T79 cs (c : Int)).f1 then some c else failC cs fc p n d (c + 1)
def failN (cs : List S79) (fc : List Int) (p : List S94) : Nat → Nat → Option (Nat × Nat)
  | 0, _ => none
  | d + 1, n => match failC cs fc p n cs.length 0 with
    | some c => some (c, n)
    | none => failN cs fc p d (n + 1)
def failP (cs : List S79) (fc : List Int) (p : List S94) : Option (Nat × Nat) := failN cs fc p fc.length 0

end Go.Proofs.Ytajndapolblhmab.P
/- Whether a plan changes a cutter, as a law asks it. -/
namespace Go.Proofs.Ytajndapolblhmab.P
open Go.RowKit Go.Proofs.Ytajndapolblhmab.P Go.Proofs.YtajndapolblhmabW.PrintWords Go.Proofs.YtajndapolblhmabW.PrintLast Go.Proofs.YtajndapolblhmabW.PrintMore
set_option linter.unusedVariables false
set_option linter.unusedSimpArgs false
theorem lawChanges_l0 (p : List S94) (c n : Int) (hp : shortS p) : ∀ (d k i : Nat), i + d = p.length → d + 1048577 < k → laws_r8Changes.l0 k p c n i = some (chg (p.drop i) c n) := by
  intro d
  have hb := hp.1
  induction d with
  | zero =>
    intro k i hi hk
    obtain ⟨k, rfl⟩ : ∃ m, k = m + 1 := ⟨k - 1, by omega⟩
    simp only [laws_r8Changes.l0]
    rw [if_neg (by omega), List.drop_of_length_le (by omega)]
    rfl
  | succ d ih =>
    intro k i hi hk
    obtain ⟨k, rfl⟩ : ∃ m, k = m + 1 := ⟨k - 1, by omega⟩
    have hlt : i < p.length := by omega
    have hs := shortS_at hp i hlt
    have hd : p.drop i = rd_T94 p (i : Int) :: p.drop (i + 1) := by rw [rdStop_at p i hlt, List.drop_eq_getElem_cons hlt]
    have hz := ih k (i + 1) (by omega) (by omega)
    simp only [laws_r8Changes.l0]
    rw [if_pos (by omega), if_pos (by omega), r8Has_is k _ _ (by omega) (by omega), bind_some_, w64s i (by omega), hz, hd]
    simp only [chg, List.any_cons]
    by_cases h1 : (rd_T94 p (i : Int)).f0 = n
    · rw [if_pos h1]
      by_cases h2 : c ∈ (rd_T94 p (i : Int)).f1
      · simp [h1, h2]
      · simp [h2]
    · rw [if_neg h1]
      simp [h1]
theorem lawChanges_is (k : Nat) (p : List S94) (c n : Int) (hp : shortS p) (hk : p.length + 1048577 < k) : laws_r8Changes.f k p c n = some (chg p c n) := by
  unfold laws_r8Changes.f
  have := lawChanges_l0 p c n hp p.length k 0 (by omega) hk
  simpa using this

end Go.Proofs.Ytajndapolblhmab.P
/- A number drawn from an input's bytes lies below its bound. -/
namespace Go.Proofs.Ytajndapolblhmab.P
open Go.RowKit Go.Proofs.Ytajndapolblhmab.P Go.Proofs.YtajndapolblhmabW.PrintWords Go.Proofs.YtajndapolblhmabW.PrintLast Go.Proofs.YtajndapolblhmabW.PrintMore
set_option linter.unusedVariables false
set_option linter.unusedSimpArgs false
theorem u64_in (n : Int) : 0 ≤ IntKind.u64.wrap n ∧ IntKind.u64.wrap n < 18446744073709551616 := by
  simp only [IntKind.wrap, IntKind.bits, IntKind.signed]
  simp
  omega
theorem wraps_u64 (n : Int) (h₀ : 0 ≤ n) (h₁ : n < 2 ^ 64) : IntKind.u64.wrap n = n := by
  simp only [IntKind.wrap, IntKind.bits, IntKind.signed]
  simp
  omega
theorem u64_and255 (x : Int) (h₀ : 0 ≤ x) (h₁ : x < 18446744073709551616) : bits .and .u64 x 255 = x % 256 := bits_mask .u64 64 (by decide) wraps_u64 8 (by decide) x h₀ (by omega)
theorem low_in (n : Int) : 0 ≤ wrap64 (Go.bits .and .u64 (IntKind.u64.wrap n / 1099511627776) 255) ∧ wrap64 (Go.bits .and .u64 (IntKind.u64.wrap n / 1099511627776) 255) ≤ 255 := by
  have h := u64_in n
  have h2 : 0 ≤ IntKind.u64.wrap n / 1099511627776 ∧ IntKind.u64.wrap n / 1099511627776 < 18446744073709551616 := by omega
  rw [u64_and255 _ h2.1 h2.2, w64 _ (by omega) (by omega)]
  omega
theorem next_in (l : List Int) (hl : ∀ x ∈ l, (Lit.int .u8 x).wf = true) (s e : Int) (hs : 0 ≤ s ∧ s ≤ 1000000000000) : ∃ r e', spec_l00Src_next.f l s e = some (r, s + 1, e') ∧ 0 ≤ r ∧ r ≤ 255 := by
  unfold spec_l00Src_next.f
  rw [w64 (s + 1) (by omega) (by omega)]
  by_cases h1 : s < (l.length : Int)
  · obtain ⟨j, rfl⟩ : ∃ j : Nat, s = j := ⟨s.toNat, by omega⟩
    have hr := wfu8 (hl _ (List.getElem_mem (show j < l.length by omega)))
    rw [if_pos h1, if_pos (by omega), if_pos (by omega), rd_at l j (by omega), w64 _ (by omega) (by omega)]
    exact ⟨_, _, rfl, hr.1, hr.2⟩
  · rw [if_neg h1]
    by_cases h2 : s + 1 ≤ (l.length : Int)
    · omega
    · rw [if_neg h2]
      exact ⟨_, _, rfl, (low_in _).1, (low_in _).2⟩
theorem pick_in (l : List Int) (hl : ∀ x ∈ l, (Lit.int .u8 x).wf = true) (s e n : Int) (hs : 0 ≤ s ∧ s ≤ 900000000000) (hn : 1 ≤ n ∧ n ≤ 1000000) : ∃ r s' e', spec_l00Src_pick.f l s e n = some (r, s', e') ∧ (0 ≤ r ∧ r < n) ∧ (s ≤ s' ∧ s' ≤ s + 2) := by
  unfold spec_l00Src_pick.f
  by_cases h1 : n ≤ 1
  · rw [if_pos h1]
    exact ⟨_, _, _, rfl, by omega, by omega⟩
  · rw [if_neg h1]
    obtain ⟨r, e1, h, r1, r2⟩ := next_in l hl s e (by omega)
    rw [h, bind_some_]
    by_cases h2 : n > 200
    · obtain ⟨q, e2, h', q1, q2⟩ := next_in l hl (s + 1) e1 (by omega)
      rw [if_pos h2, h', bind_some_, if_neg (by omega), w64 (r * 256) (by omega) (by omega), w64 (r * 256 + q) (by omega) (by omega)]
      exact ⟨_, _, _, rfl, ⟨Int.tmod_nonneg _ (by omega), Int.tmod_lt_of_pos _ (by omega)⟩, by dsimp only; omega⟩
    · rw [if_neg h2, if_neg (by omega)]
      exact ⟨_, _, _, rfl, ⟨Int.tmod_nonneg _ r1, Int.tmod_lt_of_pos _ (by omega)⟩, by dsimp only; omega⟩

end Go.Proofs.Ytajndapolblhmab.P
/- An element of a list of structs, read at an index. -/
namespace Go.Proofs.Ytajndapolblhmab.P
open Go.RowKit Go.Proofs.Ytajndapolblhmab.P Go.Proofs.YtajndapolblhmabW.PrintWords Go.Proofs.YtajndapolblhmabW.PrintLast Go.Proofs.YtajndapolblhmabW.PrintMore
set_option linter.unusedVariables false
set_option linter.unusedSimpArgs false
theorem rdCutter_at (l : List S79) (i : Nat) (h : i < l.length) : rd_T79 l (i : Int) = l[i] := by
  unfold rd_T79
  rw [Int.toNat_natCast, List.getD_eq_getElem?_getD, List.getElem?_eq_getElem h]
  rfl
end Go.Proofs.Ytajndapolblhmab.P
/- What a law draws is a valid head with a plan. -/
namespace Go.Proofs.Ytajndapolblhmab.P
open Go.RowKit Go.Proofs.Ytajndapolblhmab.P Go.Proofs.YtajndapolblhmabW.PrintWords Go.Proofs.YtajndapolblhmabW.PrintLast Go.Proofs.YtajndapolblhmabW.PrintMore
set_option linter.unusedVariables false
set_option linter.unusedSimpArgs false
theorem rd_app1 (l : List Int) (v : Int) (i : Nat) : rd (l ++ [v]) i = if i < l.length then rd l i else if i = l.length then v else 0 := by
  unfold rd
  rw [Int.toNat_natCast, List.getD_eq_getElem?_getD, List.getD_eq_getElem?_getD]
  by_cases h : i < l.length
  · rw [if_pos h, List.getElem?_append_left h]
  · rw [if_neg h, List.getElem?_append_right (by omega)]
    by_cases h2 : i = l.length
    · rw [if_pos h2]; subst h2; simp
    · rw [if_neg h2]
      obtain ⟨m, hm⟩ : ∃ m, i - l.length = m + 1 := ⟨i - l.length - 1, by omega⟩
      rw [hm]; rfl
def rz (l : List Int) (lo hi : Int) : Prop := (∀ j : Nat, j < l.length → lo ≤ rd l (j : Int) ∧ rd l (j : Int) < hi) ∧ (∀ j : Nat, j + 1 < l.length → rd l (j : Int) < rd l ((j + 1 : Nat) : Int))
theorem rz_nil (lo hi : Int) : rz [] lo hi := ⟨fun j h => by simp at h, fun j h => by simp at h⟩
theorem rz_up {l : List Int} {lo h1 h2 : Int} (h : rz l lo h1) (h3 : h1 ≤ h2) : rz l lo h2 := ⟨fun j hj => by have := h.1 j hj; omega, h.2⟩
theorem rz_app {l : List Int} {lo h1 h2 v : Int} (h : rz l lo h1) (h3 : h1 ≤ v) (h4 : lo ≤ v) (h5 : v < h2) : rz (l ++ [v]) lo h2 := by
  constructor
  · intro j hj
    rw [List.length_append, List.length_singleton] at hj
    rw [rd_app1]
    by_cases e : j < l.length
    · rw [if_pos e]; have := h.1 j e; omega
    · rw [if_neg e, if_pos (by omega)]; omega
  · intro j hj
    rw [List.length_append, List.length_singleton] at hj
    rw [rd_app1, rd_app1, if_pos (by omega)]
    by_cases e : j + 1 < l.length
    · rw [if_pos e]; exact h.2 j e
    · rw [if_neg e, if_pos (by omega)]; have := h.1 j (by omega); omega
theorem rz_rises {l : List Int} {lo hi : Int} (h : rz l lo hi) : rises l lo (hi - 1) = true := by
  unfold rises
  rw [upTo_iff]
  intro j _ hj
  have h1 := h.1 j (by omega)
  simp only [riseOk, Bool.and_eq_true, Bool.or_eq_true, decide_eq_true_eq]
  refine ⟨by omega, ?_⟩
  by_cases e : j = 0
  · exact .inl e
  · right
    obtain ⟨i, rfl⟩ : ∃ i, j = i + 1 := ⟨j - 1, by omega⟩
    exact h.2 i (by omega)
theorem rz_lt {l : List Int} {lo hi : Int} (h : rz l lo hi) (a : Nat) : ∀ d : Nat, a + 1 + d < l.length → rd l (a : Int) < rd l ((a + 1 + d : Nat) : Int)
  | 0, h1 => h.2 a h1
  | d + 1, h1 => by
    have h2 := rz_lt h a d (by omega)
    have h3 := h.2 (a + 1 + d) (by omega)
    have e : a + 1 + (d + 1) = a + 1 + d + 1 := by omega
    rw [e]
    omega
def hdFine (h : List S79 × List Int × List Int × Int × Int) : Prop := hdOk h.1 h.2.1 h.2.2.1 h.2.2.2.1 h.2.2.2.2 = true ∧ rz h.2.2.1 0 h.2.1.length
theorem rdCutter_app (l : List S79) (g : S79) (i : Nat) (hi : i < (l ++ [g]).length) : rd_T79 (l ++ [g]) i = if i < l.length then rd_T79 l i else g := by
  rw [rdCutter_at _ i hi]
  by_cases h : i < l.length
  · rw [if_pos h, List.getElem_append_left h, rdCutter_at l i h]
  · rw [if_neg h, List.getElem_append_right (by omega)]
    simp
theorem cuAll_app {l : List S79} {g : S79} (h : ∀ i, i < l.length → cuOk l i = true) (hg : (1 ≤ g.f0 ∧ g.f0 ≤ 100) ∧ (1 ≤ g.f1 ∧ g.f1 ≤ 1000000)) : ∀ i, i < (l ++ [g]).length → cuOk (l ++ [g]) i = true := by
  intro i hi
  unfold cuOk
  rw [rdCutter_app l g i hi]
  by_cases e : i < l.length
  · rw [if_pos e]; exact h i e
  · rw [if_neg e]; simp only [Bool.and_eq_true, decide_eq_true_eq]; exact hg
theorem cuAll_set {l : List S79} {g : S79} (j : Nat) (h : ∀ i, i < l.length → cuOk l i = true) (hg : (1 ≤ g.f0 ∧ g.f0 ≤ 100) ∧ (1 ≤ g.f1 ∧ g.f1 ≤ 1000000)) : ∀ i, i < (l.set j g).length → cuOk (l.set j g) i = true := by
  intro i hi
  have hi2 : i < l.length := by rw [List.length_set] at hi; exact hi
  have h2 := h i hi2
  unfold cuOk at h2 ⊢
  rw [rdCutter_at l i hi2] at h2
  rw [rdCutter_at _ i hi, List.getElem_set]
  by_cases e : j = i
  · rw [if_pos e]; simp only [Bool.and_eq_true, decide_eq_true_eq]; exact hg
  · rw [if_neg e]; exact h2
theorem hd_make (cs : List S79) (fc st : List Int) (x y : Int) (h1 : 1 ≤ cs.length ∧ cs.length ≤ 5) (h2 : fc.length ≤ 60) (h3 : st.length ≤ 8) (h4 : rz st 0 fc.length) (h5 : ∀ i, i < cs.length → cuOk cs i = true) (h6 : ∀ v ∈ fc, 0 ≤ v ∧ v ≤ 100) (h7 : 0 ≤ x ∧ x ≤ 10000) (h8 : 0 ≤ y ∧ y ≤ 10000) : hdOk cs fc st x y = true := by
  unfold hdOk impl_areWithin.all
  have h9 := rz_rises h4
  rw [w64 _ (by omega) (by omega), h9]
  simp only [Bool.and_eq_true, decide_eq_true_eq, List.all_eq_true]
  exact ⟨by omega, by omega, by omega, trivial, (upTo_iff _ _ _).mpr (fun j _ hj => h5 j (by omega)), h6, h7, h8⟩
theorem one_in (l : List Int) (hl : ∀ x ∈ l, (Lit.int .u8 x).wf = true) (s e n : Int) (hs : 0 ≤ s ∧ s ≤ 900000000000) (hn : 1 ≤ n ∧ n ≤ 1000000) : ∃ r s' e', spec_l00Src_one.f l s e n = some (r, s', e') ∧ (s ≤ s' ∧ s' ≤ s + 2) := by
  obtain ⟨r, s', e', h1, _, h2⟩ := pick_in l hl s e n hs hn
  unfold spec_l00Src_one.f
  rw [h1, bind_some_]
  exact ⟨_, _, _, rfl, h2⟩
theorem drawHead_l2 (c : List Int) (fc st : List Int) (x y s e : Int) (h2 : fc.length ≤ 60) (h3 : st.length ≤ 8) (h4 : rz st 0 fc.length) (h6 : ∀ v ∈ fc, 0 ≤ v ∧ v ≤ 100) (h7 : 0 ≤ x ∧ x ≤ 10000) (h8 : 0 ≤ y ∧ y ≤ 10000) : ∀ (d k : Nat) (cs : List S79), cs.length + d = 5 → d < k → 1 ≤ cs.length → (∀ i, i < cs.length → cuOk cs i = true) → ∃ h s' e', spec_l08DrawOk.l2 k c s e cs fc st x y = some (h.1, h.2.1, h.2.2.1, h.2.2.2.1, h.2.2.2.2, s', e') ∧ hdFine h := by
  intro d
  induction d with
  | zero =>
    intro k cs hd hk h1 h5
    obtain ⟨k, rfl⟩ : ∃ m, k = m + 1 := ⟨k - 1, by omega⟩
    simp only [spec_l08DrawOk.l2]
    rw [if_neg (by omega)]
    exact ⟨(cs, fc, st, x, y), _, _, rfl, hd_make cs fc st x y (by omega) h2 h3 h4 h5 h6 h7 h8, h4⟩
  | succ d ih =>
    intro k cs hd hk h1 h5
    obtain ⟨k, rfl⟩ : ∃ m, k = m + 1 := ⟨k - 1, by omega⟩
    simp only [spec_l08DrawOk.l2]
    rw [if_pos (by omega), if_pos (by omega)]
    exact ih k _ (by simp; omega) (by omega) (by simp) (cuAll_app h5 (by simp))
theorem drawHead_l1 (c : List Int) (hc : ∀ x ∈ c, (Lit.int .u8 x).wf = true) (fc st : List Int) (x y : Int) (h2 : fc.length ≤ 60) (h3 : st.length ≤ 8) (h4 : rz st 0 fc.length) (h6 : ∀ v ∈ fc, 0 ≤ v ∧ v ≤ 100) (h7 : 0 ≤ x ∧ x ≤ 10000) (h8 : 0 ≤ y ∧ y ≤ 10000) : ∀ (d k : Nat) (cs : List S79) (s e : Int), cs.length + d ≤ 3 → 1 ≤ cs.length + d → d + 10 < k → (0 ≤ s ∧ s ≤ 100000 - 10 * (d : Int)) → (∀ i, i < cs.length → cuOk cs i = true) → ∃ h s' e', spec_l08DrawOk.l1 k d c s e cs fc st x y = some (h.1, h.2.1, h.2.2.1, h.2.2.2.1, h.2.2.2.2, s', e') ∧ hdFine h := by
  intro d
  induction d with
  | zero =>
    intro k cs s e hd hd1 hk hs h5
    obtain ⟨k, rfl⟩ : ∃ m, k = m + 1 := ⟨k - 1, by omega⟩
    obtain ⟨r, s1, e1, q1, q2⟩ := one_in c hc s e 16 (by omega) (by omega)
    simp only [spec_l08DrawOk.l1]
    rw [if_neg (by omega), q1, bind_some_]
    cases r with
    | true =>
      rw [if_pos rfl, if_pos (by omega), show (0 : Int).toNat = 0 from rfl]
      exact drawHead_l2 c fc st x y s1 e1 h2 h3 h4 h6 h7 h8 (5 - cs.length) k _ (by simp; omega) (by omega) (by simp; omega) (cuAll_set 0 h5 (by simp))
    | false =>
      rw [if_neg (by simp)]
      exact ⟨(cs, fc, st, x, y), _, _, rfl, hd_make cs fc st x y (by omega) h2 h3 h4 h5 h6 h7 h8, h4⟩
  | succ d ih =>
    intro k cs s e hd hd1 hk hs h5
    obtain ⟨k, rfl⟩ : ∃ m, k = m + 1 := ⟨k - 1, by omega⟩
    obtain ⟨a, s1, e1, q1, a1, q2⟩ := pick_in c hc s e 6 (by omega) (by omega)
    obtain ⟨b, s2, e2, q3, b1, q4⟩ := pick_in c hc s1 e1 80 (by omega) (by omega)
    simp only [spec_l08DrawOk.l1]
    rw [if_pos (by omega), q1]
    simp only [bind_some_, q3]
    rw [if_pos (by omega), w64 (1 + a) (by omega) (by omega), w64 (20 + b) (by omega) (by omega), w64 (((d + 1 : Nat) : Int) - 1) (by omega) (by omega), show ((d + 1 : Nat) : Int) - 1 = (d : Int) by omega]
    exact ih k _ s2 e2 (by simp; omega) (by simp; omega) (by omega) (by omega) (cuAll_app h5 ⟨by dsimp only; omega, by dsimp only; omega⟩)
theorem drawHead_l0 (c : List Int) (hc : ∀ x ∈ c, (Lit.int .u8 x).wf = true) (x y : Int) (h7 : 0 ≤ x ∧ x ≤ 10000) (h8 : 0 ≤ y ∧ y ≤ 10000) (n : Nat) (hn : n ≤ 60) : ∀ (d k i : Nat) (fc st : List Int) (s e : Int), i + d = n → d + 20 < k → fc.length = i → st.length ≤ 5 → rz st 0 i → (∀ v ∈ fc, 0 ≤ v ∧ v ≤ 100) → (0 ≤ s ∧ s ≤ 10000 - 10 * (d : Int)) → ∃ h s' e', spec_l08DrawOk.l0 k n i c s e [] fc st x y = some (h.1, h.2.1, h.2.2.1, h.2.2.2.1, h.2.2.2.2, s', e') ∧ hdFine h := by
  intro d
  induction d with
  | zero =>
    intro k i fc st s e hi hk hl hst hr hf hs
    obtain ⟨k, rfl⟩ : ∃ m, k = m + 1 := ⟨k - 1, by omega⟩
    obtain ⟨a, s1, e1, q1, a1, q2⟩ := pick_in c hc s e 3 (by omega) (by omega)
    obtain ⟨m, hm⟩ : ∃ m : Nat, 1 + a = m := ⟨(1 + a).toNat, by omega⟩
    simp only [spec_l08DrawOk.l0]
    rw [if_neg (by omega), q1, bind_some_, w64 (1 + a) (by omega) (by omega), hm]
    exact drawHead_l1 c hc fc st x y (by omega) (by omega) (by rw [hl]; exact hr) hf h7 h8 m k [] s1 e1 (by simp; omega) (by simp; omega) (by omega) (by omega) (by simp)
  | succ d ih =>
    intro k i fc st s e hi hk hl hst hr hf hs
    obtain ⟨k, rfl⟩ : ∃ m, k = m + 1 := ⟨k - 1, by omega⟩
    obtain ⟨a, s1, e1, q1, a1, q2⟩ := pick_in c hc s e 8 (by omega) (by omega)
    obtain ⟨b, s2, e2, q3, q4⟩ := one_in c hc s1 e1 2 (by omega) (by omega)
    have hf2 : ∀ v ∈ fc ++ [a], 0 ≤ v ∧ v ≤ 100 := by
      intro v hv
      rcases List.mem_append.mp hv with h | h
      · exact hf v h
      · rw [List.mem_singleton] at h; omega
    have hl2 : (fc ++ [a]).length = i + 1 := by simp; omega
    have hr2 : rz st 0 ((i + 1 : Nat) : Int) := rz_up hr (by omega)
    simp only [spec_l08DrawOk.l0]
    rw [if_pos (by omega), q1, bind_some_, if_pos (by omega), bind_some_, w64s i (by omega)]
    by_cases h1 : (st.length : Int) < 5
    · rw [if_pos h1, q3, bind_some_]
      cases b with
      | true =>
        rw [if_pos rfl, if_pos (by omega)]
        exact ih k (i + 1) _ _ s2 e2 (by omega) (by omega) hl2 (by simp; omega) (rz_app hr (by omega) (by omega) (by omega)) hf2 (by omega)
      | false =>
        rw [if_neg (by simp)]
        exact ih k (i + 1) _ _ s2 e2 (by omega) (by omega) hl2 hst hr2 hf2 (by omega)
    · rw [if_neg h1]
      exact ih k (i + 1) _ _ s1 e1 (by omega) (by omega) hl2 hst hr2 hf2 (by omega)
theorem drawHead_is (c : List Int) (hc : ∀ x ∈ c, (Lit.int .u8 x).wf = true) (k : Nat) (hk : 100 ≤ k) : ∃ h, spec_R8Head.f k c = some h ∧ hdFine h := by
  unfold spec_R8Head.f spec_l00From.f spec_l08DrawOk.f
  obtain ⟨a, s1, e1, q1, a1, q2⟩ := pick_in c hc 0 0 20 (by omega) (by omega)
  obtain ⟨b, s2, e2, q3, b1, q4⟩ := pick_in c hc s1 e1 8 (by omega) (by omega)
  obtain ⟨n, s3, e3, q5, n1, q6⟩ := pick_in c hc s2 e2 12 (by omega) (by omega)
  obtain ⟨o, s4, e4, q7, q8⟩ := one_in c hc s3 e3 14 (by omega) (by omega)
  simp only [bind_some_, q1, q3, q5, q7]
  obtain ⟨k, rfl⟩ : ∃ m, k = m + 1 := ⟨k - 1, by omega⟩
  cases o with
  | true =>
    rw [if_pos rfl]
    simp only [spec_l08DrawOk.j0]
    obtain ⟨h, s', e', g1, g2⟩ := drawHead_l0 c hc a b (by omega) (by omega) 60 (by omega) 60 k 0 [] [] s4 e4 (by omega) (by omega) rfl (by simp) (rz_nil _ _) (by simp) (by omega)
    rw [show ((60 : Nat) : Int) = 60 from rfl, show ((0 : Nat) : Int) = 0 from rfl] at g1
    rw [g1, bind_some_]
    exact ⟨h, rfl, g2⟩
  | false =>
    rw [if_neg (by simp)]
    obtain ⟨m, hm⟩ : ∃ m : Nat, n = m := ⟨n.toNat, by omega⟩
    subst hm
    simp only [spec_l08DrawOk.j0]
    obtain ⟨h, s', e', g1, g2⟩ := drawHead_l0 c hc a b (by omega) (by omega) m (by omega) m k 0 [] [] s4 e4 (by omega) (by omega) rfl (by simp) (rz_nil _ _) (by simp) (by omega)
    rw [show ((0 : Nat) : Int) = 0 from rfl] at g1
    rw [g1, bind_some_]
    exact ⟨h, rfl, g2⟩

end Go.Proofs.Ytajndapolblhmab.P
