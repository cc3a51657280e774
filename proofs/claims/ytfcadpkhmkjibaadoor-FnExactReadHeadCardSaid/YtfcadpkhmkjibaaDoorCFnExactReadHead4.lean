/- What the claim of FnExactReadHead bears, part 4: functions of the program as plain Lean functions, with proofs that the code comes to their answers, and lemmas on them. -/
import Derived.Test.YtfcadpkhmkjibaaDoorCFnExactReadHead0
import Derived.Test.YtfcadpkhmkjibaaDoorCFnExactReadHead1
import Derived.Test.YtfcadpkhmkjibaaDoorCFnExactReadHead2
import Derived.Test.YtfcadpkhmkjibaaDoorCFnExactReadHead3
set_option linter.unusedVariables false
set_option linter.unusedSimpArgs false
namespace Go.Proofs.YtfcadpkhmkjibaaDoor.P
open Go.RowKit Go.Proofs.YtfcadpkhmkjibaaDoorW.PrintWords Go.Proofs.YtfcadpkhmkjibaaDoorW.PrintLast Go.Proofs.YtfcadpkhmkjibaaDoorW.PrintMore
attribute [local go_sem] max2_int min2_int max_two min_two max_three min_three max_four min_four   -- for this text's walks alone

mutual
def laws_FnExactReadHead.j0 : Nat → ByteArray → Bool → Bool → List (S77) → List Int → List Int → Int → Int → List (S77) → List Int → List Int → Int → Int → Option (Bool)
 | 0, _, _, _, _, _, _, _, _, _, _, _, _, _ => none
 | k + 1, x0, x4, x32, x540000, x540001, x540002, x540003, x540004, x553000, x553001, x553002, x553003, x553004 => if x32 = true then (some false) else ((laws_markHead.f k x553000 x553001 x553002 x553003 x553004 1).bind fun bt554 => ((laws_heldHead.f k bt554.2.1 bt554.2.2.1 bt554.2.2.2 x553003 x553004 1).bind fun t558 => (if t558 < 0 then (some false) else (if t558 = bt554.1 then ((impl_ReadHead.f k x0).bind fun bt559 => ((laws_eqHead.f k bt559.1 bt559.2.1 bt559.2.2.1 bt559.2.2.2.1 bt559.2.2.2.2.1 x540000 x540001 x540002 x540003 x540004).bind fun t572 => (if t572 = true then (laws_FnExactReadHead.j1 k bt554.1 (bt559.2.2.2.2.2 != x4) bt554.2.1 bt554.2.2.1 bt554.2.2.2 x553003 x553004) else (laws_FnExactReadHead.j1 k bt554.1 true bt554.2.1 bt554.2.2.1 bt554.2.2.2 x553003 x553004)))) else (some false)))))
def laws_FnExactReadHead.j1 : Nat → Int → Bool → List (S77) → List Int → List Int → Int → Int → Option (Bool)
 | 0, _, _, _, _, _, _, _ => none
 | k + 1, x7, x57, x553000, x553001, x553002, x553003, x553004 => if x57 = true then (some false) else ((laws_heldHead.f k x553000 x553001 x553002 x553003 x553004 1).bind fun t573 => (if t573 < 0 then (some false) else (if t573 = x7 then (some true) else (some false))))
end
def laws_FnExactReadHead.f (k : Nat) (a0 : ByteArray) : Option (Bool) := if (a0.size : Int) > 1048576 then (some true) else ((spec_ReadHead.f k a0).bind fun bt527 => ((impl_ReadHead.f k a0).bind fun bt540 => ((laws_eqHead.f k bt540.1 bt540.2.1 bt540.2.2.1 bt540.2.2.2.1 bt540.2.2.2.2.1 bt527.1 bt527.2.1 bt527.2.2.1 bt527.2.2.2.1 bt527.2.2.2.2.1).bind fun t553 => (if t553 = true then (laws_FnExactReadHead.j0 k a0 bt527.2.2.2.2.2 (bt540.2.2.2.2.2 != bt527.2.2.2.2.2) bt527.1 bt527.2.1 bt527.2.2.1 bt527.2.2.2.1 bt527.2.2.2.2.1 bt540.1 bt540.2.1 bt540.2.2.1 bt540.2.2.2.1 bt540.2.2.2.2.1) else (laws_FnExactReadHead.j0 k a0 bt527.2.2.2.2.2 true bt527.1 bt527.2.1 bt527.2.2.1 bt527.2.2.2.1 bt527.2.2.2.2.1 bt540.1 bt540.2.1 bt540.2.2.1 bt540.2.2.2.1 bt540.2.2.2.2.1)))))
set_option maxHeartbeats 8000000 in
set_option maxRecDepth 100000 in
theorem laws_FnExactReadHead.calls (k : Nat) (a0 : ByteArray) (r : Bool) (w : World) (hT_ : Tab2 w) (h : laws_FnExactReadHead.f k a0 = some r) (hr_ : r = true) :
  Calls Tryd.prog 5 #[.string a0] w fun e w' => e = .returned (.bool r) ∧ Below w.heap.size w w' := by
 have hu31 := Tryd.underlying31
 have HLT_ := Aside0.mk hT_
 clear hT_
 have HB := Aside0.mk (Below.refl w.heap.size w)
 have H : (if (a0.size : Int) > 1048576 then (some true) else ((spec_ReadHead.f k a0).bind fun bt527 => ((impl_ReadHead.f k a0).bind fun bt540 => ((laws_eqHead.f k bt540.1 bt540.2.1 bt540.2.2.1 bt540.2.2.2.1 bt540.2.2.2.2.1 bt527.1 bt527.2.1 bt527.2.2.1 bt527.2.2.2.1 bt527.2.2.2.2.1).bind fun t553 => (if t553 = true then (laws_FnExactReadHead.j0 k a0 bt527.2.2.2.2.2 (bt540.2.2.2.2.2 != bt527.2.2.2.2.2) bt527.1 bt527.2.1 bt527.2.2.1 bt527.2.2.2.1 bt527.2.2.2.2.1 bt540.1 bt540.2.1 bt540.2.2.1 bt540.2.2.2.1 bt540.2.2.2.2.1) else (laws_FnExactReadHead.j0 k a0 bt527.2.2.2.2.2 true bt527.1 bt527.2.1 bt527.2.2.1 bt527.2.2.2.1 bt527.2.2.2.2.1 bt540.1 bt540.2.1 bt540.2.2.1 bt540.2.2.2.1 bt540.2.2.2.2.1)))))) = some r := h
 clear h
 by_cases c2 : (a0.size : Int) > 1048576
 ·rw [if_pos c2] at H
  have c2b0 : decide (1048576 < (a0.size : Int)) = true := decide_eq_true c2
  have c2b1 : decide (1048576 < a0.size) = true := decide_eq_true (by omega)
  clear c2
  obtain rfl := Option.some.inj H
  go_enter Tryd.func5, Tryd.ntmps5
  go_wp2
  go_ret
  exact ⟨by first | rfl | (simp [errW_none, errW_some] <;> rfl) | (simp [*, errW_none, errW_some] <;> rfl) | (simp [tz_, *]; done), by repeat (first | (with_reducible first | exact HB.out | apply below_alloc | apply pw_below_drewN | apply below_drew1) | exact HB.out)⟩
 ·rw [if_neg c2] at H
  have c2b0 : decide (1048576 < (a0.size : Int)) = false := decide_eq_false c2
  have c2b1 : decide (1048576 < a0.size) = false := decide_eq_false (by omega)
  clear c2
  replace H := Option.bind_eq_some_iff.mp H
  obtain ⟨⟨t527, t530, t533, t536, t537, t538⟩, A30, H⟩ := H
  replace H : ((impl_ReadHead.f k a0).bind fun bt540 => ((laws_eqHead.f k bt540.1 bt540.2.1 bt540.2.2.1 bt540.2.2.2.1 bt540.2.2.2.2.1 t527 t530 t533 t536 t537).bind fun t553 => (if t553 = true then (laws_FnExactReadHead.j0 k a0 t538 (bt540.2.2.2.2.2 != t538) t527 t530 t533 t536 t537 bt540.1 bt540.2.1 bt540.2.2.1 bt540.2.2.2.1 bt540.2.2.2.2.1) else (laws_FnExactReadHead.j0 k a0 t538 true t527 t530 t533 t536 t537 bt540.1 bt540.2.1 bt540.2.2.1 bt540.2.2.2.1 bt540.2.2.2.2.1)))) = some r := H
  have A3 := Aside0.mk A30
  clear A30
  replace H := Option.bind_eq_some_iff.mp H
  obtain ⟨⟨t540, t543, t546, t549, t550, t551⟩, A40, H⟩ := H
  replace H : ((laws_eqHead.f k t540 t543 t546 t549 t550 t527 t530 t533 t536 t537).bind fun t553 => (if t553 = true then (laws_FnExactReadHead.j0 k a0 t538 (t551 != t538) t527 t530 t533 t536 t537 t540 t543 t546 t549 t550) else (laws_FnExactReadHead.j0 k a0 t538 true t527 t530 t533 t536 t537 t540 t543 t546 t549 t550))) = some r := H
  have A4 := Aside0.mk A40
  clear A40
  have HC5 := Aside0.mk H
  clear H
  go_enter Tryd.func5, Tryd.ntmps5
  go_upto_region 5 with (first | ((with_reducible refine gate_callee (f := 17) rfl ?_); refine goesL_ (some 16) rfl rfl Tryd.func17 (by kernel_rfl) rfl #[.string a0] rfl (by (try simp only [List.map_toArray, List.map_cons, List.map_nil]); first | done | rfl) ?_; (with_reducible refine (spec_ReadHead.calls k a0 t527 t530 t533 t536 t537 t538 _ A3.out).mono ?_); rintro e w6 ⟨v528, v531, v534, rfl, ho0, ho1, ho2, hb⟩; refine ⟨_, rfl, ?_⟩; have n0_ := Aside0.mk (Kd.R_lower ho0 (below_size (by repeat (first | (with_reducible first | exact HB.out | apply below_alloc | apply pw_below_drewN | apply below_drew1) | exact HB.out)))); have n1_ := Aside0.mk (Kd.R_lower ho1 (below_size (by repeat (first | (with_reducible first | exact HB.out | apply below_alloc | apply pw_below_drewN | apply below_drew1) | exact HB.out)))); have n2_ := Aside0.mk (Kd.R_lower ho2 (below_size (by repeat (first | (with_reducible first | exact HB.out | apply below_alloc | apply pw_below_drewN | apply below_drew1) | exact HB.out)))); have n3_ := Aside0.mk (below_step (by repeat (first | (with_reducible first | exact HB.out | apply below_alloc | apply pw_below_drewN | apply below_drew1) | exact HB.out)) hb); clear HB; have HO529 := n0_; have HO532 := n1_; have HO535 := n2_; have HB := n3_; clear n0_ n1_ n2_ n3_; (try clear hb); (try clear hb2); (try clear hk); (try clear hi); (try clear ho0); (try clear ho1); (try clear ho2)) | ((with_reducible refine gate_dst (N := 3) rfl ?_); refine box_event ?hg (N := 3) ?hd (cs := #[.slice none 0 0, .slice none 0 0, .slice none 0 0, .int .i64 0, .int .i64 0]) (t := 31) ?hr ?_; (case hd => rfl); (case hg => rfl); (case hr => first | (go_simp; done) | (go_simp; rfl)); intro gb539 hg w7 hbox hb; have n0_ := Aside0.mk (Kd.R_below (by (with_reducible repeat (first | apply Kd.R_alloc | apply Kd.R_drewN | apply Kd.R_drew)); exact HO529.out) hb); have n1_ := Aside0.mk (Kd.R_below (by (with_reducible repeat (first | apply Kd.R_alloc | apply Kd.R_drewN | apply Kd.R_drew)); exact HO532.out) hb); have n2_ := Aside0.mk (Kd.R_below (by (with_reducible repeat (first | apply Kd.R_alloc | apply Kd.R_drewN | apply Kd.R_drew)); exact HO535.out) hb); have n3_ := Aside0.mk (below_step (by repeat (first | (with_reducible first | exact HB.out | apply below_alloc | apply pw_below_drewN | apply below_drew1) | exact HB.out)) hb); have n4_ := Aside0.mk (hbox); have n5_ := Aside0.mk ((by rw [hg]; exact (below_size (by repeat (first | (with_reducible first | exact HB.out | apply below_alloc | apply pw_below_drewN | apply below_drew1) | exact HB.out))) : w.heap.size ≤ gb539)); have n6_ := Aside0.mk ((by rw [hg]; exact (below_size (by repeat (first | (with_reducible first | exact HB.out | apply below_alloc | apply pw_below_drewN | apply below_drew1) | exact HB.out))) : w.heap.size ≤ gb539)); clear HO529; clear HO532; clear HO535; clear HB; have HO529 := n0_; have HO532 := n1_; have HO535 := n2_; have HB := n3_; have BK539 := n4_; have GW539 := n5_; have GE539 := n6_; clear n0_ n1_ n2_ n3_ n4_ n5_ n6_; clear hb hbox hg; obtain ⟨Ao8, co8, eo8⟩ := Kd.R_slice HO529.out; subst eo8; have hcz9_0 : w7.cell? ⟨gb539, 0, none⟩ = some (.slice none 0 0) := (blk_cell BK539.out 0).trans rfl; have hcz9_1 : w7.cell? ⟨gb539, 1, none⟩ = some (.slice none 0 0) := (blk_cell BK539.out 1).trans rfl; have hcz9_2 : w7.cell? ⟨gb539, 2, none⟩ = some (.slice none 0 0) := (blk_cell BK539.out 2).trans rfl; have hcz9_3 : w7.cell? ⟨gb539, 3, none⟩ = some (.int .i64 0) := (blk_cell BK539.out 3).trans rfl; have hcz9_4 : w7.cell? ⟨gb539, 4, none⟩ = some (.int .i64 0) := (blk_cell BK539.out 4).trans rfl; have hfz9_0 := blk_frozen BK539.out 0; have hfz9_1 := blk_frozen BK539.out 1; have hfz9_2 := blk_frozen BK539.out 2; have hfz9_3 := blk_frozen BK539.out 3; have hfz9_4 := blk_frozen BK539.out 4; obtain ⟨Ao10, co10, eo10⟩ := Kd.R_slice HO532.out; subst eo10; obtain ⟨Ao11, co11, eo11⟩ := Kd.R_slice HO535.out; subst eo11) | ((with_reducible refine gate_callee (f := 18) rfl ?_); refine goesL_ (some 21) rfl rfl Tryd.func18 (by kernel_rfl) rfl #[.string a0] rfl (by (try simp only [List.map_toArray, List.map_cons, List.map_nil]); first | done | rfl) ?_; (with_reducible refine (impl_ReadHead.calls k a0 t540 t543 t546 t549 t550 t551 _ ?side1 A4.out).mono ?_); (case side1 => exact Tab2.on HLT_.out (by repeat (first | (with_reducible first | exact HB.out | apply below_alloc | apply pw_below_drewN | apply below_drew1 | refine below_set ?_ GE539.out) | exact HB.out))); rintro e w12 ⟨v541, v544, v547, rfl, ho0, ho1, ho2, hb⟩; refine ⟨_, rfl, ?_⟩; have n0_ := Aside0.mk (Kd.R_elder' (by (with_reducible repeat (first | apply Kd.R_alloc | apply Kd.R_drewN | apply Kd.R_drew)); exact (Kd.R_mono (Kd.R_far (p := ⟨gb539, 4, none⟩) (Kd.R_far (p := ⟨gb539, 3, none⟩) (Kd.R_far (p := ⟨gb539, 2, none⟩) (Kd.R_far (p := ⟨gb539, 1, none⟩) (Kd.R_far (p := ⟨gb539, 0, none⟩) (Kd.R_types HO529.out BK539.out (by decide)) (fun _ hk => hk.2) (.slice Ao8 t527.length co8)) (fun _ hk => hk.2) (.slice Ao10 t530.length co10)) (fun _ hk => hk.2) (.slice Ao11 t533.length co11)) (fun _ hk => hk.2) (.int .i64 t536)) (fun _ hk => hk.2) (.int .i64 t537)) (fun _ h_ => h_.1))) (Kd.R_base ho0) hb); have n1_ := Aside0.mk (Kd.R_mono (Kd.R_told (Kd.R_told (Kd.R_old (by (with_reducible repeat (first | apply Kd.R_alloc | apply Kd.R_drewN | apply Kd.R_drew)); exact (Kd.R_mono (Kd.R_far (p := ⟨gb539, 4, none⟩) (Kd.R_far (p := ⟨gb539, 3, none⟩) (Kd.R_far (p := ⟨gb539, 2, none⟩) (Kd.R_far (p := ⟨gb539, 1, none⟩) (Kd.R_far (p := ⟨gb539, 0, none⟩) (Kd.R_types HO532.out BK539.out (by decide)) (fun _ hk => hk.2) (.slice Ao8 t527.length co8)) (fun _ hk => hk.2) (.slice Ao10 t530.length co10)) (fun _ hk => hk.2) (.slice Ao11 t533.length co11)) (fun _ hk => hk.2) (.int .i64 t536)) (fun _ hk => hk.2) (.int .i64 t537)) (fun _ h_ => h_.1))) hb) (Kd.R_base ho1)) (Kd.R_base ho2)) (fun _ h_ => h_.1)); have n2_ := Aside0.mk (Kd.R_mono (Kd.R_told (Kd.R_told (Kd.R_old (by (with_reducible repeat (first | apply Kd.R_alloc | apply Kd.R_drewN | apply Kd.R_drew)); exact (Kd.R_mono (Kd.R_far (p := ⟨gb539, 4, none⟩) (Kd.R_far (p := ⟨gb539, 3, none⟩) (Kd.R_far (p := ⟨gb539, 2, none⟩) (Kd.R_far (p := ⟨gb539, 1, none⟩) (Kd.R_far (p := ⟨gb539, 0, none⟩) (Kd.R_types HO535.out BK539.out (by decide)) (fun _ hk => hk.2) (.slice Ao8 t527.length co8)) (fun _ hk => hk.2) (.slice Ao10 t530.length co10)) (fun _ hk => hk.2) (.slice Ao11 t533.length co11)) (fun _ hk => hk.2) (.int .i64 t536)) (fun _ hk => hk.2) (.int .i64 t537)) (fun _ h_ => h_.1))) hb) (Kd.R_base ho1)) (Kd.R_base ho2)) (fun _ h_ => h_.1)); have n3_ := Aside0.mk (Kd.R_lower (Kd.R_new' ho0 (Kd.R_lt (by (with_reducible repeat (first | apply Kd.R_alloc | apply Kd.R_drewN | apply Kd.R_drew)); exact (Kd.R_mono (Kd.R_far (p := ⟨gb539, 4, none⟩) (Kd.R_far (p := ⟨gb539, 3, none⟩) (Kd.R_far (p := ⟨gb539, 2, none⟩) (Kd.R_far (p := ⟨gb539, 1, none⟩) (Kd.R_far (p := ⟨gb539, 0, none⟩) (Kd.R_types HO529.out BK539.out (by decide)) (fun _ hk => hk.2) (.slice Ao8 t527.length co8)) (fun _ hk => hk.2) (.slice Ao10 t530.length co10)) (fun _ hk => hk.2) (.slice Ao11 t533.length co11)) (fun _ hk => hk.2) (.int .i64 t536)) (fun _ hk => hk.2) (.int .i64 t537)) (fun _ h_ => h_.1))))) (below_size (by repeat (first | (with_reducible first | exact HB.out | apply below_alloc | apply pw_below_drewN | apply below_drew1 | refine below_set ?_ GE539.out) | exact HB.out)))); have n4_ := Aside0.mk (Kd.R_lower (Kd.R_new' (Kd.R_new' ho1 (Kd.R_lt (by (with_reducible repeat (first | apply Kd.R_alloc | apply Kd.R_drewN | apply Kd.R_drew)); exact (Kd.R_mono (Kd.R_far (p := ⟨gb539, 4, none⟩) (Kd.R_far (p := ⟨gb539, 3, none⟩) (Kd.R_far (p := ⟨gb539, 2, none⟩) (Kd.R_far (p := ⟨gb539, 1, none⟩) (Kd.R_far (p := ⟨gb539, 0, none⟩) (Kd.R_types HO532.out BK539.out (by decide)) (fun _ hk => hk.2) (.slice Ao8 t527.length co8)) (fun _ hk => hk.2) (.slice Ao10 t530.length co10)) (fun _ hk => hk.2) (.slice Ao11 t533.length co11)) (fun _ hk => hk.2) (.int .i64 t536)) (fun _ hk => hk.2) (.int .i64 t537)) (fun _ h_ => h_.1))))) (Kd.R_lt (by (with_reducible repeat (first | apply Kd.R_alloc | apply Kd.R_drewN | apply Kd.R_drew)); exact (Kd.R_mono (Kd.R_far (p := ⟨gb539, 4, none⟩) (Kd.R_far (p := ⟨gb539, 3, none⟩) (Kd.R_far (p := ⟨gb539, 2, none⟩) (Kd.R_far (p := ⟨gb539, 1, none⟩) (Kd.R_far (p := ⟨gb539, 0, none⟩) (Kd.R_types HO535.out BK539.out (by decide)) (fun _ hk => hk.2) (.slice Ao8 t527.length co8)) (fun _ hk => hk.2) (.slice Ao10 t530.length co10)) (fun _ hk => hk.2) (.slice Ao11 t533.length co11)) (fun _ hk => hk.2) (.int .i64 t536)) (fun _ hk => hk.2) (.int .i64 t537)) (fun _ h_ => h_.1))))) (below_size (by repeat (first | (with_reducible first | exact HB.out | apply below_alloc | apply pw_below_drewN | apply below_drew1 | refine below_set ?_ GE539.out) | exact HB.out)))); have n5_ := Aside0.mk (Kd.R_lower (Kd.R_new' (Kd.R_new' ho2 (Kd.R_lt (by (with_reducible repeat (first | apply Kd.R_alloc | apply Kd.R_drewN | apply Kd.R_drew)); exact (Kd.R_mono (Kd.R_far (p := ⟨gb539, 4, none⟩) (Kd.R_far (p := ⟨gb539, 3, none⟩) (Kd.R_far (p := ⟨gb539, 2, none⟩) (Kd.R_far (p := ⟨gb539, 1, none⟩) (Kd.R_far (p := ⟨gb539, 0, none⟩) (Kd.R_types HO532.out BK539.out (by decide)) (fun _ hk => hk.2) (.slice Ao8 t527.length co8)) (fun _ hk => hk.2) (.slice Ao10 t530.length co10)) (fun _ hk => hk.2) (.slice Ao11 t533.length co11)) (fun _ hk => hk.2) (.int .i64 t536)) (fun _ hk => hk.2) (.int .i64 t537)) (fun _ h_ => h_.1))))) (Kd.R_lt (by (with_reducible repeat (first | apply Kd.R_alloc | apply Kd.R_drewN | apply Kd.R_drew)); exact (Kd.R_mono (Kd.R_far (p := ⟨gb539, 4, none⟩) (Kd.R_far (p := ⟨gb539, 3, none⟩) (Kd.R_far (p := ⟨gb539, 2, none⟩) (Kd.R_far (p := ⟨gb539, 1, none⟩) (Kd.R_far (p := ⟨gb539, 0, none⟩) (Kd.R_types HO535.out BK539.out (by decide)) (fun _ hk => hk.2) (.slice Ao8 t527.length co8)) (fun _ hk => hk.2) (.slice Ao10 t530.length co10)) (fun _ hk => hk.2) (.slice Ao11 t533.length co11)) (fun _ hk => hk.2) (.int .i64 t536)) (fun _ hk => hk.2) (.int .i64 t537)) (fun _ h_ => h_.1))))) (below_size (by repeat (first | (with_reducible first | exact HB.out | apply below_alloc | apply pw_below_drewN | apply below_drew1 | refine below_set ?_ GE539.out) | exact HB.out)))); have n6_ := Aside0.mk (blk_below (g := gb539) (o := .cells #[.slice Ao8 t527.length co8, .slice Ao10 t530.length co10, .slice Ao11 t533.length co11, .int .i64 t536, .int .i64 t537] 31 (0, 0)) (by (with_reducible repeat (first | refine blk_drewN ?_ _ | refine blk_drew ?_ | refine blk_alloc ?_ _)); refine blk_put (cs := #[.slice Ao8 t527.length co8, .slice Ao10 t530.length co10, .slice Ao11 t533.length co11, .int .i64 t536, .int .i64 0]) ?_ 4 _ rfl; (with_reducible repeat (first | refine blk_drewN ?_ _ | refine blk_drew ?_ | refine blk_alloc ?_ _)); refine blk_put (cs := #[.slice Ao8 t527.length co8, .slice Ao10 t530.length co10, .slice Ao11 t533.length co11, .int .i64 0, .int .i64 0]) ?_ 3 _ rfl; (with_reducible repeat (first | refine blk_drewN ?_ _ | refine blk_drew ?_ | refine blk_alloc ?_ _)); refine blk_put (cs := #[.slice Ao8 t527.length co8, .slice Ao10 t530.length co10, .slice none 0 0, .int .i64 0, .int .i64 0]) ?_ 2 _ rfl; (with_reducible repeat (first | refine blk_drewN ?_ _ | refine blk_drew ?_ | refine blk_alloc ?_ _)); refine blk_put (cs := #[.slice Ao8 t527.length co8, .slice none 0 0, .slice none 0 0, .int .i64 0, .int .i64 0]) ?_ 1 _ rfl; (with_reducible repeat (first | refine blk_drewN ?_ _ | refine blk_drew ?_ | refine blk_alloc ?_ _)); refine blk_put (cs := #[.slice none 0 0, .slice none 0 0, .slice none 0 0, .int .i64 0, .int .i64 0]) ?_ 0 _ rfl; (with_reducible repeat (first | refine blk_drewN ?_ _ | refine blk_drew ?_ | refine blk_alloc ?_ _)); exact BK539.out) hb); have n7_ := Aside0.mk (below_step (by repeat (first | (with_reducible first | exact HB.out | apply below_alloc | apply pw_below_drewN | apply below_drew1 | refine below_set ?_ GE539.out) | exact HB.out)) hb); clear HO529; clear HO532; clear HO535; clear BK539; clear HB; have HO529 := n0_; have HO532 := n1_; have HO535 := n2_; have HO542 := n3_; have HO545 := n4_; have HO548 := n5_; have BK539 := n6_; have HB := n7_; clear n0_ n1_ n2_ n3_ n4_ n5_ n6_ n7_; (try clear hb); (try clear hb2); (try clear hk); (try clear hi); (try clear ho0); (try clear ho1); (try clear ho2)) | ((with_reducible refine gate_dst (N := 5) rfl ?_); refine box_event ?hg (N := 5) ?hd (cs := #[.slice none 0 0, .slice none 0 0, .slice none 0 0, .int .i64 0, .int .i64 0]) (t := 31) ?hr ?_; (case hd => rfl); (case hg => rfl); (case hr => first | (go_simp; done) | (go_simp; rfl)); intro gb552 hg w13 hbox hb; have n0_ := Aside0.mk (Kd.R_below (by (with_reducible repeat (first | apply Kd.R_alloc | apply Kd.R_drewN | apply Kd.R_drew)); exact HO529.out) hb); have n1_ := Aside0.mk (Kd.R_below (by (with_reducible repeat (first | apply Kd.R_alloc | apply Kd.R_drewN | apply Kd.R_drew)); exact HO532.out) hb); have n2_ := Aside0.mk (Kd.R_below (by (with_reducible repeat (first | apply Kd.R_alloc | apply Kd.R_drewN | apply Kd.R_drew)); exact HO535.out) hb); have n3_ := Aside0.mk (Kd.R_below (by (with_reducible repeat (first | apply Kd.R_alloc | apply Kd.R_drewN | apply Kd.R_drew)); exact HO542.out) hb); have n4_ := Aside0.mk (Kd.R_below (by (with_reducible repeat (first | apply Kd.R_alloc | apply Kd.R_drewN | apply Kd.R_drew)); exact HO545.out) hb); have n5_ := Aside0.mk (Kd.R_below (by (with_reducible repeat (first | apply Kd.R_alloc | apply Kd.R_drewN | apply Kd.R_drew)); exact HO548.out) hb); have n6_ := Aside0.mk (blk_below (g := gb539) (o := .cells #[.slice Ao8 t527.length co8, .slice Ao10 t530.length co10, .slice Ao11 t533.length co11, .int .i64 t536, .int .i64 t537] 31 (0, 0)) (by (with_reducible repeat (first | refine blk_drewN ?_ _ | refine blk_drew ?_ | refine blk_alloc ?_ _)); exact BK539.out) hb); have n7_ := Aside0.mk (below_step (by repeat (first | (with_reducible first | exact HB.out | apply below_alloc | apply pw_below_drewN | apply below_drew1 | refine below_set ?_ GE539.out) | exact HB.out)) hb); have n8_ := Aside0.mk (hbox); have n9_ := Aside0.mk ((by rw [hg]; exact (below_size (by repeat (first | (with_reducible first | exact HB.out | apply below_alloc | apply pw_below_drewN | apply below_drew1 | refine below_set ?_ GE539.out) | exact HB.out))) : w.heap.size ≤ gb552)); have n10_ := Aside0.mk ((by rw [hg]; exact (below_size (by repeat (first | (with_reducible first | exact HB.out | apply below_alloc | apply pw_below_drewN | apply below_drew1 | refine below_set ?_ GE539.out) | exact HB.out))) : w.heap.size ≤ gb552)); have n11_ := Aside0.mk ((by rw [hg]; exact Nat.ne_of_lt (blk_lt (g := gb539) (o := .cells #[.slice Ao8 t527.length co8, .slice Ao10 t530.length co10, .slice Ao11 t533.length co11, .int .i64 t536, .int .i64 t537] 31 (0, 0)) (by (with_reducible repeat (first | refine blk_drewN ?_ _ | refine blk_drew ?_ | refine blk_alloc ?_ _)); exact BK539.out)) : gb539 ≠ gb552)); have n12_ := Aside0.mk ((by rw [hg]; exact Nat.ne_of_gt (blk_lt (g := gb539) (o := .cells #[.slice Ao8 t527.length co8, .slice Ao10 t530.length co10, .slice Ao11 t533.length co11, .int .i64 t536, .int .i64 t537] 31 (0, 0)) (by (with_reducible repeat (first | refine blk_drewN ?_ _ | refine blk_drew ?_ | refine blk_alloc ?_ _)); exact BK539.out)) : gb552 ≠ gb539)); clear HO529; clear HO532; clear HO535; clear HO542; clear HO545; clear HO548; clear BK539; clear HB; have HO529 := n0_; have HO532 := n1_; have HO535 := n2_; have HO542 := n3_; have HO545 := n4_; have HO548 := n5_; have BK539 := n6_; have HB := n7_; have BK552 := n8_; have GW552 := n9_; have GE552 := n10_; have NB539_552 := n11_; have NB552_539 := n12_; clear n0_ n1_ n2_ n3_ n4_ n5_ n6_ n7_ n8_ n9_ n10_ n11_ n12_; clear hb hbox hg; obtain ⟨Ao14, co14, eo14⟩ := Kd.R_slice HO542.out; subst eo14; have hnb15 := NB552_539.out; have hnc15 := NB539_552.out; have hcz16_0 : w13.cell? ⟨gb552, 0, none⟩ = some (.slice none 0 0) := (blk_cell BK552.out 0).trans rfl; have hcz16_1 : w13.cell? ⟨gb552, 1, none⟩ = some (.slice none 0 0) := (blk_cell BK552.out 1).trans rfl; have hcz16_2 : w13.cell? ⟨gb552, 2, none⟩ = some (.slice none 0 0) := (blk_cell BK552.out 2).trans rfl; have hcz16_3 : w13.cell? ⟨gb552, 3, none⟩ = some (.int .i64 0) := (blk_cell BK552.out 3).trans rfl; have hcz16_4 : w13.cell? ⟨gb552, 4, none⟩ = some (.int .i64 0) := (blk_cell BK552.out 4).trans rfl; have hfz16_0 := blk_frozen BK552.out 0; have hfz16_1 := blk_frozen BK552.out 1; have hfz16_2 := blk_frozen BK552.out 2; have hfz16_3 := blk_frozen BK552.out 3; have hfz16_4 := blk_frozen BK552.out 4; obtain ⟨Ao17, co17, eo17⟩ := Kd.R_slice HO545.out; subst eo17; obtain ⟨Ao18, co18, eo18⟩ := Kd.R_slice HO548.out; subst eo18))
  (try simp only [Act.put, qa_, qz_, qs_])
  go_cut [32] (fun v32 wc => ∃ (kq : Nat) (x32_4 : Bool), v32 = .bool x32_4 ∧ Aside0 (laws_FnExactReadHead.j0 kq a0 t538 x32_4 t527 t530 t533 t536 t537 t540 t543 t546 t549 t550 = some r) ∧ Aside0 (kq ≤ k) ∧ Aside0 (Kd.R k77 77 wc w.heap.size (fun k_ => some k_ ≠ ((.slice Ao14 t540.length co14) : Value).ownBlock) (.slice Ao8 t527.length co8) t527) ∧ Aside0 (Kd.R (Kd.int .i64) 2 wc w.heap.size (fun k_ => some k_ ≠ ((.slice Ao11 t533.length co11) : Value).ownBlock ∧ some k_ ≠ ((.slice Ao17 t543.length co17) : Value).ownBlock ∧ some k_ ≠ ((.slice Ao18 t546.length co18) : Value).ownBlock) (.slice Ao10 t530.length co10) t530) ∧ Aside0 (Kd.R (Kd.int .i64) 2 wc w.heap.size (fun k_ => some k_ ≠ ((.slice Ao10 t530.length co10) : Value).ownBlock ∧ some k_ ≠ ((.slice Ao17 t543.length co17) : Value).ownBlock ∧ some k_ ≠ ((.slice Ao18 t546.length co18) : Value).ownBlock) (.slice Ao11 t533.length co11) t533) ∧ Aside0 (Kd.R k77 77 wc w.heap.size (fun k_ => some k_ ≠ ((.slice Ao8 t527.length co8) : Value).ownBlock) (.slice Ao14 t540.length co14) t540) ∧ Aside0 (Kd.R (Kd.int .i64) 2 wc w.heap.size (fun k_ => some k_ ≠ ((.slice Ao10 t530.length co10) : Value).ownBlock ∧ some k_ ≠ ((.slice Ao11 t533.length co11) : Value).ownBlock ∧ some k_ ≠ ((.slice Ao18 t546.length co18) : Value).ownBlock) (.slice Ao17 t543.length co17) t543) ∧ Aside0 (Kd.R (Kd.int .i64) 2 wc w.heap.size (fun k_ => some k_ ≠ ((.slice Ao10 t530.length co10) : Value).ownBlock ∧ some k_ ≠ ((.slice Ao11 t533.length co11) : Value).ownBlock ∧ some k_ ≠ ((.slice Ao17 t543.length co17) : Value).ownBlock) (.slice Ao18 t546.length co18) t546) ∧ Aside0 (wc.heap[gb539]? = some (.cells #[(.slice Ao8 t527.length co8), (.slice Ao10 t530.length co10), (.slice Ao11 t533.length co11), .int .i64 t536, .int .i64 t537] 31 (0, 0))) ∧ Aside0 (wc.heap[gb552]? = some (.cells #[(.slice Ao14 t540.length co14), (.slice Ao17 t543.length co17), (.slice Ao18 t546.length co18), .int .i64 t549, .int .i64 t550] 31 (0, 0))) ∧ Aside0 (Below w.heap.size w wc))
  case first =>
   have H := HC5.out
   clear HC5
   replace H := Option.bind_eq_some_iff.mp H
   obtain ⟨t553, A190, H⟩ := H
   replace H : (if t553 = true then (laws_FnExactReadHead.j0 k a0 t538 (t551 != t538) t527 t530 t533 t536 t537 t540 t543 t546 t549 t550) else (laws_FnExactReadHead.j0 k a0 t538 true t527 t530 t533 t536 t537 t540 t543 t546 t549 t550)) = some r := H
   have A19 := Aside0.mk A190
   clear A190
   by_cases c20 : t553 = true
   ·subst c20
    have H1 : (laws_FnExactReadHead.j0 k a0 t538 (t551 != t538) t527 t530 t533 t536 t537 t540 t543 t546 t549 t550) = some r := by rw [if_pos rfl] at H; exact H
    clear H
    have H := H1
    clear H1
    have H' := Aside0.mk H
    clear H
    have hnb21 := NB552_539.out
    have hnc21 := NB539_552.out
    have hcz22_0 : w13.cell? ⟨gb552, 0, none⟩ = some (.slice none 0 0) := (blk_cell BK552.out 0).trans rfl
    have hcz22_1 : w13.cell? ⟨gb552, 1, none⟩ = some (.slice none 0 0) := (blk_cell BK552.out 1).trans rfl
    have hcz22_2 : w13.cell? ⟨gb552, 2, none⟩ = some (.slice none 0 0) := (blk_cell BK552.out 2).trans rfl
    have hcz22_3 : w13.cell? ⟨gb552, 3, none⟩ = some (.int .i64 0) := (blk_cell BK552.out 3).trans rfl
    have hcz22_4 : w13.cell? ⟨gb552, 4, none⟩ = some (.int .i64 0) := (blk_cell BK552.out 4).trans rfl
    have hfz22_0 := blk_frozen BK552.out 0
    have hfz22_1 := blk_frozen BK552.out 1
    have hfz22_2 := blk_frozen BK552.out 2
    have hfz22_3 := blk_frozen BK552.out 3
    have hfz22_4 := blk_frozen BK552.out 4
    have hcz23_0 : w13.cell? ⟨gb539, 0, none⟩ = some (.slice Ao8 t527.length co8) := (blk_cell BK539.out 0).trans rfl
    have hcz23_1 : w13.cell? ⟨gb539, 1, none⟩ = some (.slice Ao10 t530.length co10) := (blk_cell BK539.out 1).trans rfl
    have hcz23_2 : w13.cell? ⟨gb539, 2, none⟩ = some (.slice Ao11 t533.length co11) := (blk_cell BK539.out 2).trans rfl
    have hcz23_3 : w13.cell? ⟨gb539, 3, none⟩ = some (.int .i64 t536) := (blk_cell BK539.out 3).trans rfl
    have hcz23_4 : w13.cell? ⟨gb539, 4, none⟩ = some (.int .i64 t537) := (blk_cell BK539.out 4).trans rfl
    have hfz23_0 := blk_frozen BK539.out 0
    have hfz23_1 := blk_frozen BK539.out 1
    have hfz23_2 := blk_frozen BK539.out 2
    have hfz23_3 := blk_frozen BK539.out 3
    have hfz23_4 := blk_frozen BK539.out 4
    go_wp2_with (first | ((with_reducible refine gate_callee (f := 11) rfl ?_); refine goesL_ (some 26) rfl rfl Tryd.func11 (by kernel_rfl) rfl #[.agg #[.slice Ao14 t540.length co14, .slice Ao17 t543.length co17, .slice Ao18 t546.length co18, .int .i64 t549, .int .i64 t550], .agg #[.slice Ao8 t527.length co8, .slice Ao10 t530.length co10, .slice Ao11 t533.length co11, .int .i64 t536, .int .i64 t537]] rfl (by (try simp only [List.map_toArray, List.map_cons, List.map_nil]); first | done | rfl) ?_; (with_reducible refine (laws_eqHead.calls k _ _ t540 _ _ t543 _ _ t546 t549 t550 _ _ t527 _ _ t530 _ _ t533 t536 t537 true _ ?side1 ?side2 ?side3 ?side4 ?side5 ?side6 ?side7 ?side8 ?side9 ?side10 ?side11 ?side12 A19.out).mono ?_); (case side1 => refine (Kd.R_reads' (e := 77) (base := w.heap.size) (ok := fun k_ => (True ∧ some k_ ≠ (.slice Ao8 t527.length co8 : Value).ownBlock)) (n := t540.length) (c := co14) ?_).2.2; exact (by (with_reducible repeat (first | apply Kd.R_alloc | apply Kd.R_drewN | apply Kd.R_drew)); exact (Kd.R_mono (Kd.R_far (p := ⟨gb552, 4, none⟩) (Kd.R_far (p := ⟨gb552, 3, none⟩) (Kd.R_far (p := ⟨gb552, 2, none⟩) (Kd.R_far (p := ⟨gb552, 1, none⟩) (Kd.R_far (p := ⟨gb552, 0, none⟩) (Kd.R_types HO542.out BK552.out (by decide)) (fun _ hk => hk.2) (.slice Ao14 t540.length co14)) (fun _ hk => hk.2) (.slice Ao17 t543.length co17)) (fun _ hk => hk.2) (.slice Ao18 t546.length co18)) (fun _ hk => hk.2) (.int .i64 t549)) (fun _ hk => hk.2) (.int .i64 t550)) (fun _ h_ => h_.1)))); (case side2 => exact (Kd.R_reads' HO542.out).2.1); (case side3 => refine (Kd.R_reads' (e := 2) (base := w.heap.size) (ok := fun k_ => ((some k_ ≠ (.slice Ao18 t546.length co18 : Value).ownBlock ∧ some k_ ≠ (.slice Ao10 t530.length co10 : Value).ownBlock) ∧ some k_ ≠ (.slice Ao11 t533.length co11 : Value).ownBlock)) (n := t543.length) (c := co17) ?_).2.2; exact (by (with_reducible repeat (first | apply Kd.R_alloc | apply Kd.R_drewN | apply Kd.R_drew)); exact (Kd.R_mono (Kd.R_far (p := ⟨gb552, 4, none⟩) (Kd.R_far (p := ⟨gb552, 3, none⟩) (Kd.R_far (p := ⟨gb552, 2, none⟩) (Kd.R_far (p := ⟨gb552, 1, none⟩) (Kd.R_far (p := ⟨gb552, 0, none⟩) (Kd.R_types HO545.out BK552.out (by decide)) (fun _ hk => hk.2) (.slice Ao14 t540.length co14)) (fun _ hk => hk.2) (.slice Ao17 t543.length co17)) (fun _ hk => hk.2) (.slice Ao18 t546.length co18)) (fun _ hk => hk.2) (.int .i64 t549)) (fun _ hk => hk.2) (.int .i64 t550)) (fun _ h_ => h_.1)))); (case side4 => exact (Kd.R_reads' HO545.out).2.1); (case side5 => refine (Kd.R_reads' (e := 2) (base := w.heap.size) (ok := fun k_ => ((some k_ ≠ (.slice Ao17 t543.length co17 : Value).ownBlock ∧ some k_ ≠ (.slice Ao10 t530.length co10 : Value).ownBlock) ∧ some k_ ≠ (.slice Ao11 t533.length co11 : Value).ownBlock)) (n := t546.length) (c := co18) ?_).2.2; exact (by (with_reducible repeat (first | apply Kd.R_alloc | apply Kd.R_drewN | apply Kd.R_drew)); exact (Kd.R_mono (Kd.R_far (p := ⟨gb552, 4, none⟩) (Kd.R_far (p := ⟨gb552, 3, none⟩) (Kd.R_far (p := ⟨gb552, 2, none⟩) (Kd.R_far (p := ⟨gb552, 1, none⟩) (Kd.R_far (p := ⟨gb552, 0, none⟩) (Kd.R_types HO548.out BK552.out (by decide)) (fun _ hk => hk.2) (.slice Ao14 t540.length co14)) (fun _ hk => hk.2) (.slice Ao17 t543.length co17)) (fun _ hk => hk.2) (.slice Ao18 t546.length co18)) (fun _ hk => hk.2) (.int .i64 t549)) (fun _ hk => hk.2) (.int .i64 t550)) (fun _ h_ => h_.1)))); (case side6 => exact (Kd.R_reads' HO548.out).2.1); (case side7 => refine (Kd.R_reads' (e := 77) (base := w.heap.size) (ok := fun k_ => (True ∧ some k_ ≠ (.slice Ao14 t540.length co14 : Value).ownBlock)) (n := t527.length) (c := co8) ?_).2.2; exact (by (with_reducible repeat (first | apply Kd.R_alloc | apply Kd.R_drewN | apply Kd.R_drew)); exact (Kd.R_mono (Kd.R_far (p := ⟨gb552, 4, none⟩) (Kd.R_far (p := ⟨gb552, 3, none⟩) (Kd.R_far (p := ⟨gb552, 2, none⟩) (Kd.R_far (p := ⟨gb552, 1, none⟩) (Kd.R_far (p := ⟨gb552, 0, none⟩) (Kd.R_types HO529.out BK552.out (by decide)) (fun _ hk => hk.2) (.slice Ao14 t540.length co14)) (fun _ hk => hk.2) (.slice Ao17 t543.length co17)) (fun _ hk => hk.2) (.slice Ao18 t546.length co18)) (fun _ hk => hk.2) (.int .i64 t549)) (fun _ hk => hk.2) (.int .i64 t550)) (fun _ h_ => h_.1)))); (case side8 => exact (Kd.R_reads' HO529.out).2.1); (case side9 => refine (Kd.R_reads' (e := 2) (base := w.heap.size) (ok := fun k_ => ((some k_ ≠ (.slice Ao11 t533.length co11 : Value).ownBlock ∧ some k_ ≠ (.slice Ao17 t543.length co17 : Value).ownBlock) ∧ some k_ ≠ (.slice Ao18 t546.length co18 : Value).ownBlock)) (n := t530.length) (c := co10) ?_).2.2; exact (by (with_reducible repeat (first | apply Kd.R_alloc | apply Kd.R_drewN | apply Kd.R_drew)); exact (Kd.R_mono (Kd.R_far (p := ⟨gb552, 4, none⟩) (Kd.R_far (p := ⟨gb552, 3, none⟩) (Kd.R_far (p := ⟨gb552, 2, none⟩) (Kd.R_far (p := ⟨gb552, 1, none⟩) (Kd.R_far (p := ⟨gb552, 0, none⟩) (Kd.R_types HO532.out BK552.out (by decide)) (fun _ hk => hk.2) (.slice Ao14 t540.length co14)) (fun _ hk => hk.2) (.slice Ao17 t543.length co17)) (fun _ hk => hk.2) (.slice Ao18 t546.length co18)) (fun _ hk => hk.2) (.int .i64 t549)) (fun _ hk => hk.2) (.int .i64 t550)) (fun _ h_ => h_.1)))); (case side10 => exact (Kd.R_reads' HO532.out).2.1); (case side11 => refine (Kd.R_reads' (e := 2) (base := w.heap.size) (ok := fun k_ => ((some k_ ≠ (.slice Ao10 t530.length co10 : Value).ownBlock ∧ some k_ ≠ (.slice Ao17 t543.length co17 : Value).ownBlock) ∧ some k_ ≠ (.slice Ao18 t546.length co18 : Value).ownBlock)) (n := t533.length) (c := co11) ?_).2.2; exact (by (with_reducible repeat (first | apply Kd.R_alloc | apply Kd.R_drewN | apply Kd.R_drew)); exact (Kd.R_mono (Kd.R_far (p := ⟨gb552, 4, none⟩) (Kd.R_far (p := ⟨gb552, 3, none⟩) (Kd.R_far (p := ⟨gb552, 2, none⟩) (Kd.R_far (p := ⟨gb552, 1, none⟩) (Kd.R_far (p := ⟨gb552, 0, none⟩) (Kd.R_types HO535.out BK552.out (by decide)) (fun _ hk => hk.2) (.slice Ao14 t540.length co14)) (fun _ hk => hk.2) (.slice Ao17 t543.length co17)) (fun _ hk => hk.2) (.slice Ao18 t546.length co18)) (fun _ hk => hk.2) (.int .i64 t549)) (fun _ hk => hk.2) (.int .i64 t550)) (fun _ h_ => h_.1)))); (case side12 => exact (Kd.R_reads' HO535.out).2.1); rintro e w24 ⟨rfl, hb⟩; refine ⟨_, rfl, ?_⟩; have n0_ := Aside0.mk (Kd.R_below (by (with_reducible repeat (first | apply Kd.R_alloc | apply Kd.R_drewN | apply Kd.R_drew)); exact (Kd.R_mono (Kd.R_far (p := ⟨gb552, 4, none⟩) (Kd.R_far (p := ⟨gb552, 3, none⟩) (Kd.R_far (p := ⟨gb552, 2, none⟩) (Kd.R_far (p := ⟨gb552, 1, none⟩) (Kd.R_far (p := ⟨gb552, 0, none⟩) (Kd.R_types HO529.out BK552.out (by decide)) (fun _ hk => hk.2) (.slice Ao14 t540.length co14)) (fun _ hk => hk.2) (.slice Ao17 t543.length co17)) (fun _ hk => hk.2) (.slice Ao18 t546.length co18)) (fun _ hk => hk.2) (.int .i64 t549)) (fun _ hk => hk.2) (.int .i64 t550)) (fun _ h_ => h_.1))) hb); have n1_ := Aside0.mk (Kd.R_below (by (with_reducible repeat (first | apply Kd.R_alloc | apply Kd.R_drewN | apply Kd.R_drew)); exact (Kd.R_mono (Kd.R_far (p := ⟨gb552, 4, none⟩) (Kd.R_far (p := ⟨gb552, 3, none⟩) (Kd.R_far (p := ⟨gb552, 2, none⟩) (Kd.R_far (p := ⟨gb552, 1, none⟩) (Kd.R_far (p := ⟨gb552, 0, none⟩) (Kd.R_types HO532.out BK552.out (by decide)) (fun _ hk => hk.2) (.slice Ao14 t540.length co14)) (fun _ hk => hk.2) (.slice Ao17 t543.length co17)) (fun _ hk => hk.2) (.slice Ao18 t546.length co18)) (fun _ hk => hk.2) (.int .i64 t549)) (fun _ hk => hk.2) (.int .i64 t550)) (fun _ h_ => h_.1))) hb); have n2_ := Aside0.mk (Kd.R_below (by (with_reducible repeat (first | apply Kd.R_alloc | apply Kd.R_drewN | apply Kd.R_drew)); exact (Kd.R_mono (Kd.R_far (p := ⟨gb552, 4, none⟩) (Kd.R_far (p := ⟨gb552, 3, none⟩) (Kd.R_far (p := ⟨gb552, 2, none⟩) (Kd.R_far (p := ⟨gb552, 1, none⟩) (Kd.R_far (p := ⟨gb552, 0, none⟩) (Kd.R_types HO535.out BK552.out (by decide)) (fun _ hk => hk.2) (.slice Ao14 t540.length co14)) (fun _ hk => hk.2) (.slice Ao17 t543.length co17)) (fun _ hk => hk.2) (.slice Ao18 t546.length co18)) (fun _ hk => hk.2) (.int .i64 t549)) (fun _ hk => hk.2) (.int .i64 t550)) (fun _ h_ => h_.1))) hb); have n3_ := Aside0.mk (Kd.R_below (by (with_reducible repeat (first | apply Kd.R_alloc | apply Kd.R_drewN | apply Kd.R_drew)); exact (Kd.R_mono (Kd.R_far (p := ⟨gb552, 4, none⟩) (Kd.R_far (p := ⟨gb552, 3, none⟩) (Kd.R_far (p := ⟨gb552, 2, none⟩) (Kd.R_far (p := ⟨gb552, 1, none⟩) (Kd.R_far (p := ⟨gb552, 0, none⟩) (Kd.R_types HO542.out BK552.out (by decide)) (fun _ hk => hk.2) (.slice Ao14 t540.length co14)) (fun _ hk => hk.2) (.slice Ao17 t543.length co17)) (fun _ hk => hk.2) (.slice Ao18 t546.length co18)) (fun _ hk => hk.2) (.int .i64 t549)) (fun _ hk => hk.2) (.int .i64 t550)) (fun _ h_ => h_.1))) hb); have n4_ := Aside0.mk (Kd.R_below (by (with_reducible repeat (first | apply Kd.R_alloc | apply Kd.R_drewN | apply Kd.R_drew)); exact (Kd.R_mono (Kd.R_far (p := ⟨gb552, 4, none⟩) (Kd.R_far (p := ⟨gb552, 3, none⟩) (Kd.R_far (p := ⟨gb552, 2, none⟩) (Kd.R_far (p := ⟨gb552, 1, none⟩) (Kd.R_far (p := ⟨gb552, 0, none⟩) (Kd.R_types HO545.out BK552.out (by decide)) (fun _ hk => hk.2) (.slice Ao14 t540.length co14)) (fun _ hk => hk.2) (.slice Ao17 t543.length co17)) (fun _ hk => hk.2) (.slice Ao18 t546.length co18)) (fun _ hk => hk.2) (.int .i64 t549)) (fun _ hk => hk.2) (.int .i64 t550)) (fun _ h_ => h_.1))) hb); have n5_ := Aside0.mk (Kd.R_below (by (with_reducible repeat (first | apply Kd.R_alloc | apply Kd.R_drewN | apply Kd.R_drew)); exact (Kd.R_mono (Kd.R_far (p := ⟨gb552, 4, none⟩) (Kd.R_far (p := ⟨gb552, 3, none⟩) (Kd.R_far (p := ⟨gb552, 2, none⟩) (Kd.R_far (p := ⟨gb552, 1, none⟩) (Kd.R_far (p := ⟨gb552, 0, none⟩) (Kd.R_types HO548.out BK552.out (by decide)) (fun _ hk => hk.2) (.slice Ao14 t540.length co14)) (fun _ hk => hk.2) (.slice Ao17 t543.length co17)) (fun _ hk => hk.2) (.slice Ao18 t546.length co18)) (fun _ hk => hk.2) (.int .i64 t549)) (fun _ hk => hk.2) (.int .i64 t550)) (fun _ h_ => h_.1))) hb); have n6_ := Aside0.mk (blk_below (g := gb539) (o := .cells #[.slice Ao8 t527.length co8, .slice Ao10 t530.length co10, .slice Ao11 t533.length co11, .int .i64 t536, .int .i64 t537] 31 (0, 0)) (by (with_reducible repeat (first | refine blk_drewN ?_ _ | refine blk_drew ?_ | refine blk_alloc ?_ _)); refine blk_far ?_ NB539_552.out _; (with_reducible repeat (first | refine blk_drewN ?_ _ | refine blk_drew ?_ | refine blk_alloc ?_ _)); refine blk_far ?_ NB539_552.out _; (with_reducible repeat (first | refine blk_drewN ?_ _ | refine blk_drew ?_ | refine blk_alloc ?_ _)); refine blk_far ?_ NB539_552.out _; (with_reducible repeat (first | refine blk_drewN ?_ _ | refine blk_drew ?_ | refine blk_alloc ?_ _)); refine blk_far ?_ NB539_552.out _; (with_reducible repeat (first | refine blk_drewN ?_ _ | refine blk_drew ?_ | refine blk_alloc ?_ _)); refine blk_far ?_ NB539_552.out _; (with_reducible repeat (first | refine blk_drewN ?_ _ | refine blk_drew ?_ | refine blk_alloc ?_ _)); exact BK539.out) hb); have n7_ := Aside0.mk (blk_below (g := gb552) (o := .cells #[.slice Ao14 t540.length co14, .slice Ao17 t543.length co17, .slice Ao18 t546.length co18, .int .i64 t549, .int .i64 t550] 31 (0, 0)) (by (with_reducible repeat (first | refine blk_drewN ?_ _ | refine blk_drew ?_ | refine blk_alloc ?_ _)); refine blk_put (cs := #[.slice Ao14 t540.length co14, .slice Ao17 t543.length co17, .slice Ao18 t546.length co18, .int .i64 t549, .int .i64 0]) ?_ 4 _ rfl; (with_reducible repeat (first | refine blk_drewN ?_ _ | refine blk_drew ?_ | refine blk_alloc ?_ _)); refine blk_put (cs := #[.slice Ao14 t540.length co14, .slice Ao17 t543.length co17, .slice Ao18 t546.length co18, .int .i64 0, .int .i64 0]) ?_ 3 _ rfl; (with_reducible repeat (first | refine blk_drewN ?_ _ | refine blk_drew ?_ | refine blk_alloc ?_ _)); refine blk_put (cs := #[.slice Ao14 t540.length co14, .slice Ao17 t543.length co17, .slice none 0 0, .int .i64 0, .int .i64 0]) ?_ 2 _ rfl; (with_reducible repeat (first | refine blk_drewN ?_ _ | refine blk_drew ?_ | refine blk_alloc ?_ _)); refine blk_put (cs := #[.slice Ao14 t540.length co14, .slice none 0 0, .slice none 0 0, .int .i64 0, .int .i64 0]) ?_ 1 _ rfl; (with_reducible repeat (first | refine blk_drewN ?_ _ | refine blk_drew ?_ | refine blk_alloc ?_ _)); refine blk_put (cs := #[.slice none 0 0, .slice none 0 0, .slice none 0 0, .int .i64 0, .int .i64 0]) ?_ 0 _ rfl; (with_reducible repeat (first | refine blk_drewN ?_ _ | refine blk_drew ?_ | refine blk_alloc ?_ _)); exact BK552.out) hb); have n8_ := Aside0.mk (below_step (by repeat (first | (with_reducible first | exact HB.out | apply below_alloc | apply pw_below_drewN | apply below_drew1 | refine below_set ?_ GE539.out | refine below_set ?_ GE552.out) | exact HB.out)) hb); clear HO529; clear HO532; clear HO535; clear HO542; clear HO545; clear HO548; clear BK539; clear BK552; clear HB; have HO529 := n0_; have HO532 := n1_; have HO535 := n2_; have HO542 := n3_; have HO545 := n4_; have HO548 := n5_; have BK539 := n6_; have BK552 := n7_; have HB := n8_; clear n0_ n1_ n2_ n3_ n4_ n5_ n6_ n7_ n8_; (try clear hb); (try clear hb2); (try clear hk); (try clear hi)))
    go_meet
    case rel => exact ⟨_, ((t551 != t538)), (by first | rfl | (simp; done) | (simp [*]; done) | (simp [tz_, *]; done)), H', ⟨by first | omega | exact Nat.le_refl _⟩, ⟨by (with_reducible repeat (first | apply Kd.R_alloc | apply Kd.R_drewN | apply Kd.R_drew)); exact Kd.R_mono HO529.out (fun _ hk => hk.2)⟩, ⟨by (with_reducible repeat (first | apply Kd.R_alloc | apply Kd.R_drewN | apply Kd.R_drew)); exact Kd.R_mono HO532.out (fun _ hk => ⟨hk.1.1, ⟨hk.1.2, hk.2⟩⟩)⟩, ⟨by (with_reducible repeat (first | apply Kd.R_alloc | apply Kd.R_drewN | apply Kd.R_drew)); exact Kd.R_mono HO535.out (fun _ hk => ⟨hk.1.1, ⟨hk.1.2, hk.2⟩⟩)⟩, ⟨by (with_reducible repeat (first | apply Kd.R_alloc | apply Kd.R_drewN | apply Kd.R_drew)); exact Kd.R_mono HO542.out (fun _ hk => hk.2)⟩, ⟨by (with_reducible repeat (first | apply Kd.R_alloc | apply Kd.R_drewN | apply Kd.R_drew)); exact Kd.R_mono HO545.out (fun _ hk => ⟨hk.1.2, ⟨hk.2, hk.1.1⟩⟩)⟩, ⟨by (with_reducible repeat (first | apply Kd.R_alloc | apply Kd.R_drewN | apply Kd.R_drew)); exact Kd.R_mono HO548.out (fun _ hk => ⟨hk.1.2, ⟨hk.2, hk.1.1⟩⟩)⟩, ⟨by (with_reducible repeat (first | refine blk_drewN ?_ _ | refine blk_drew ?_ | refine blk_alloc ?_ _)); exact BK539.out⟩, ⟨by (with_reducible repeat (first | refine blk_drewN ?_ _ | refine blk_drew ?_ | refine blk_alloc ?_ _)); exact BK552.out⟩, ⟨by repeat (first | (with_reducible first | exact HB.out | apply below_alloc | apply pw_below_drewN | apply below_drew1 | refine below_set ?_ GE539.out | refine below_set ?_ GE552.out) | exact HB.out)⟩⟩
   ·replace c20 := Bool.eq_false_iff.mpr c20
    subst c20
    have H1 : (laws_FnExactReadHead.j0 k a0 t538 true t527 t530 t533 t536 t537 t540 t543 t546 t549 t550) = some r := by rw [if_neg (show ¬ (false = true) by decide)] at H; exact H
    clear H
    have H := H1
    clear H1
    have H' := Aside0.mk H
    clear H
    have hnb25 := NB552_539.out
    have hnc25 := NB539_552.out
    have hcz26_0 : w13.cell? ⟨gb552, 0, none⟩ = some (.slice none 0 0) := (blk_cell BK552.out 0).trans rfl
    have hcz26_1 : w13.cell? ⟨gb552, 1, none⟩ = some (.slice none 0 0) := (blk_cell BK552.out 1).trans rfl
    have hcz26_2 : w13.cell? ⟨gb552, 2, none⟩ = some (.slice none 0 0) := (blk_cell BK552.out 2).trans rfl
    have hcz26_3 : w13.cell? ⟨gb552, 3, none⟩ = some (.int .i64 0) := (blk_cell BK552.out 3).trans rfl
    have hcz26_4 : w13.cell? ⟨gb552, 4, none⟩ = some (.int .i64 0) := (blk_cell BK552.out 4).trans rfl
    have hfz26_0 := blk_frozen BK552.out 0
    have hfz26_1 := blk_frozen BK552.out 1
    have hfz26_2 := blk_frozen BK552.out 2
    have hfz26_3 := blk_frozen BK552.out 3
    have hfz26_4 := blk_frozen BK552.out 4
    have hcz27_0 : w13.cell? ⟨gb539, 0, none⟩ = some (.slice Ao8 t527.length co8) := (blk_cell BK539.out 0).trans rfl
    have hcz27_1 : w13.cell? ⟨gb539, 1, none⟩ = some (.slice Ao10 t530.length co10) := (blk_cell BK539.out 1).trans rfl
    have hcz27_2 : w13.cell? ⟨gb539, 2, none⟩ = some (.slice Ao11 t533.length co11) := (blk_cell BK539.out 2).trans rfl
    have hcz27_3 : w13.cell? ⟨gb539, 3, none⟩ = some (.int .i64 t536) := (blk_cell BK539.out 3).trans rfl
    have hcz27_4 : w13.cell? ⟨gb539, 4, none⟩ = some (.int .i64 t537) := (blk_cell BK539.out 4).trans rfl
    have hfz27_0 := blk_frozen BK539.out 0
    have hfz27_1 := blk_frozen BK539.out 1
    have hfz27_2 := blk_frozen BK539.out 2
    have hfz27_3 := blk_frozen BK539.out 3
    have hfz27_4 := blk_frozen BK539.out 4
    go_wp2_with (first | ((with_reducible refine gate_callee (f := 11) rfl ?_); refine goesL_ (some 26) rfl rfl Tryd.func11 (by kernel_rfl) rfl #[.agg #[.slice Ao14 t540.length co14, .slice Ao17 t543.length co17, .slice Ao18 t546.length co18, .int .i64 t549, .int .i64 t550], .agg #[.slice Ao8 t527.length co8, .slice Ao10 t530.length co10, .slice Ao11 t533.length co11, .int .i64 t536, .int .i64 t537]] rfl (by (try simp only [List.map_toArray, List.map_cons, List.map_nil]); first | done | rfl) ?_; (with_reducible refine (laws_eqHead.calls k _ _ t540 _ _ t543 _ _ t546 t549 t550 _ _ t527 _ _ t530 _ _ t533 t536 t537 false _ ?side1 ?side2 ?side3 ?side4 ?side5 ?side6 ?side7 ?side8 ?side9 ?side10 ?side11 ?side12 A19.out).mono ?_); (case side1 => refine (Kd.R_reads' (e := 77) (base := w.heap.size) (ok := fun k_ => (True ∧ some k_ ≠ (.slice Ao8 t527.length co8 : Value).ownBlock)) (n := t540.length) (c := co14) ?_).2.2; exact (by (with_reducible repeat (first | apply Kd.R_alloc | apply Kd.R_drewN | apply Kd.R_drew)); exact (Kd.R_mono (Kd.R_far (p := ⟨gb552, 4, none⟩) (Kd.R_far (p := ⟨gb552, 3, none⟩) (Kd.R_far (p := ⟨gb552, 2, none⟩) (Kd.R_far (p := ⟨gb552, 1, none⟩) (Kd.R_far (p := ⟨gb552, 0, none⟩) (Kd.R_types HO542.out BK552.out (by decide)) (fun _ hk => hk.2) (.slice Ao14 t540.length co14)) (fun _ hk => hk.2) (.slice Ao17 t543.length co17)) (fun _ hk => hk.2) (.slice Ao18 t546.length co18)) (fun _ hk => hk.2) (.int .i64 t549)) (fun _ hk => hk.2) (.int .i64 t550)) (fun _ h_ => h_.1)))); (case side2 => exact (Kd.R_reads' HO542.out).2.1); (case side3 => refine (Kd.R_reads' (e := 2) (base := w.heap.size) (ok := fun k_ => ((some k_ ≠ (.slice Ao18 t546.length co18 : Value).ownBlock ∧ some k_ ≠ (.slice Ao10 t530.length co10 : Value).ownBlock) ∧ some k_ ≠ (.slice Ao11 t533.length co11 : Value).ownBlock)) (n := t543.length) (c := co17) ?_).2.2; exact (by (with_reducible repeat (first | apply Kd.R_alloc | apply Kd.R_drewN | apply Kd.R_drew)); exact (Kd.R_mono (Kd.R_far (p := ⟨gb552, 4, none⟩) (Kd.R_far (p := ⟨gb552, 3, none⟩) (Kd.R_far (p := ⟨gb552, 2, none⟩) (Kd.R_far (p := ⟨gb552, 1, none⟩) (Kd.R_far (p := ⟨gb552, 0, none⟩) (Kd.R_types HO545.out BK552.out (by decide)) (fun _ hk => hk.2) (.slice Ao14 t540.length co14)) (fun _ hk => hk.2) (.slice Ao17 t543.length co17)) (fun _ hk => hk.2) (.slice Ao18 t546.length co18)) (fun _ hk => hk.2) (.int .i64 t549)) (fun _ hk => hk.2) (.int .i64 t550)) (fun _ h_ => h_.1)))); (case side4 => exact (Kd.R_reads' HO545.out).2.1); (case side5 => refine (Kd.R_reads' (e := 2) (base := w.heap.size) (ok := fun k_ => ((some k_ ≠ (.slice Ao17 t543.length co17 : Value).ownBlock ∧ some k_ ≠ (.slice Ao10 t530.length co10 : Value).ownBlock) ∧ some k_ ≠ (.slice Ao11 t533.length co11 : Value).ownBlock)) (n := t546.length) (c := co18) ?_).2.2; exact (by (with_reducible repeat (first | apply Kd.R_alloc | apply Kd.R_drewN | apply Kd.R_drew)); exact (Kd.R_mono (Kd.R_far (p := ⟨gb552, 4, none⟩) (Kd.R_far (p := ⟨gb552, 3, none⟩) (Kd.R_far (p := ⟨gb552, 2, none⟩) (Kd.R_far (p := ⟨gb552, 1, none⟩) (Kd.R_far (p := ⟨gb552, 0, none⟩) (Kd.R_types HO548.out BK552.out (by decide)) (fun _ hk => hk.2) (.slice Ao14 t540.length co14)) (fun _ hk => hk.2) (.slice Ao17 t543.length co17)) (fun _ hk => hk.2) (.slice Ao18 t546.length co18)) (fun _ hk => hk.2) (.int .i64 t549)) (fun _ hk => hk.2) (.int .i64 t550)) (fun _ h_ => h_.1)))); (case side6 => exact (Kd.R_reads' HO548.out).2.1); (case side7 => refine (Kd.R_reads' (e := 77) (base := w.heap.size) (ok := fun k_ => (True ∧ some k_ ≠ (.slice Ao14 t540.length co14 : Value).ownBlock)) (n := t527.length) (c := co8) ?_).2.2; exact (by (with_reducible repeat (first | apply Kd.R_alloc | apply Kd.R_drewN | apply Kd.R_drew)); exact (Kd.R_mono (Kd.R_far (p := ⟨gb552, 4, none⟩) (Kd.R_far (p := ⟨gb552, 3, none⟩) (Kd.R_far (p := ⟨gb552, 2, none⟩) (Kd.R_far (p := ⟨gb552, 1, none⟩) (Kd.R_far (p := ⟨gb552, 0, none⟩) (Kd.R_types HO529.out BK552.out (by decide)) (fun _ hk => hk.2) (.slice Ao14 t540.length co14)) (fun _ hk => hk.2) (.slice Ao17 t543.length co17)) (fun _ hk => hk.2) (.slice Ao18 t546.length co18)) (fun _ hk => hk.2) (.int .i64 t549)) (fun _ hk => hk.2) (.int .i64 t550)) (fun _ h_ => h_.1)))); (case side8 => exact (Kd.R_reads' HO529.out).2.1); (case side9 => refine (Kd.R_reads' (e := 2) (base := w.heap.size) (ok := fun k_ => ((some k_ ≠ (.slice Ao11 t533.length co11 : Value).ownBlock ∧ some k_ ≠ (.slice Ao17 t543.length co17 : Value).ownBlock) ∧ some k_ ≠ (.slice Ao18 t546.length co18 : Value).ownBlock)) (n := t530.length) (c := co10) ?_).2.2; exact (by (with_reducible repeat (first | apply Kd.R_alloc | apply Kd.R_drewN | apply Kd.R_drew)); exact (Kd.R_mono (Kd.R_far (p := ⟨gb552, 4, none⟩) (Kd.R_far (p := ⟨gb552, 3, none⟩) (Kd.R_far (p := ⟨gb552, 2, none⟩) (Kd.R_far (p := ⟨gb552, 1, none⟩) (Kd.R_far (p := ⟨gb552, 0, none⟩) (Kd.R_types HO532.out BK552.out (by decide)) (fun _ hk => hk.2) (.slice Ao14 t540.length co14)) (fun _ hk => hk.2) (.slice Ao17 t543.length co17)) (fun _ hk => hk.2) (.slice Ao18 t546.length co18)) (fun _ hk => hk.2) (.int .i64 t549)) (fun _ hk => hk.2) (.int .i64 t550)) (fun _ h_ => h_.1)))); (case side10 => exact (Kd.R_reads' HO532.out).2.1); (case side11 => refine (Kd.R_reads' (e := 2) (base := w.heap.size) (ok := fun k_ => ((some k_ ≠ (.slice Ao10 t530.length co10 : Value).ownBlock ∧ some k_ ≠ (.slice Ao17 t543.length co17 : Value).ownBlock) ∧ some k_ ≠ (.slice Ao18 t546.length co18 : Value).ownBlock)) (n := t533.length) (c := co11) ?_).2.2; exact (by (with_reducible repeat (first | apply Kd.R_alloc | apply Kd.R_drewN | apply Kd.R_drew)); exact (Kd.R_mono (Kd.R_far (p := ⟨gb552, 4, none⟩) (Kd.R_far (p := ⟨gb552, 3, none⟩) (Kd.R_far (p := ⟨gb552, 2, none⟩) (Kd.R_far (p := ⟨gb552, 1, none⟩) (Kd.R_far (p := ⟨gb552, 0, none⟩) (Kd.R_types HO535.out BK552.out (by decide)) (fun _ hk => hk.2) (.slice Ao14 t540.length co14)) (fun _ hk => hk.2) (.slice Ao17 t543.length co17)) (fun _ hk => hk.2) (.slice Ao18 t546.length co18)) (fun _ hk => hk.2) (.int .i64 t549)) (fun _ hk => hk.2) (.int .i64 t550)) (fun _ h_ => h_.1)))); (case side12 => exact (Kd.R_reads' HO535.out).2.1); rintro e w28 ⟨rfl, hb⟩; refine ⟨_, rfl, ?_⟩; have n0_ := Aside0.mk (Kd.R_below (by (with_reducible repeat (first | apply Kd.R_alloc | apply Kd.R_drewN | apply Kd.R_drew)); exact (Kd.R_mono (Kd.R_far (p := ⟨gb552, 4, none⟩) (Kd.R_far (p := ⟨gb552, 3, none⟩) (Kd.R_far (p := ⟨gb552, 2, none⟩) (Kd.R_far (p := ⟨gb552, 1, none⟩) (Kd.R_far (p := ⟨gb552, 0, none⟩) (Kd.R_types HO529.out BK552.out (by decide)) (fun _ hk => hk.2) (.slice Ao14 t540.length co14)) (fun _ hk => hk.2) (.slice Ao17 t543.length co17)) (fun _ hk => hk.2) (.slice Ao18 t546.length co18)) (fun _ hk => hk.2) (.int .i64 t549)) (fun _ hk => hk.2) (.int .i64 t550)) (fun _ h_ => h_.1))) hb); have n1_ := Aside0.mk (Kd.R_below (by (with_reducible repeat (first | apply Kd.R_alloc | apply Kd.R_drewN | apply Kd.R_drew)); exact (Kd.R_mono (Kd.R_far (p := ⟨gb552, 4, none⟩) (Kd.R_far (p := ⟨gb552, 3, none⟩) (Kd.R_far (p := ⟨gb552, 2, none⟩) (Kd.R_far (p := ⟨gb552, 1, none⟩) (Kd.R_far (p := ⟨gb552, 0, none⟩) (Kd.R_types HO532.out BK552.out (by decide)) (fun _ hk => hk.2) (.slice Ao14 t540.length co14)) (fun _ hk => hk.2) (.slice Ao17 t543.length co17)) (fun _ hk => hk.2) (.slice Ao18 t546.length co18)) (fun _ hk => hk.2) (.int .i64 t549)) (fun _ hk => hk.2) (.int .i64 t550)) (fun _ h_ => h_.1))) hb); have n2_ := Aside0.mk (Kd.R_below (by (with_reducible repeat (first | apply Kd.R_alloc | apply Kd.R_drewN | apply Kd.R_drew)); exact (Kd.R_mono (Kd.R_far (p := ⟨gb552, 4, none⟩) (Kd.R_far (p := ⟨gb552, 3, none⟩) (Kd.R_far (p := ⟨gb552, 2, none⟩) (Kd.R_far (p := ⟨gb552, 1, none⟩) (Kd.R_far (p := ⟨gb552, 0, none⟩) (Kd.R_types HO535.out BK552.out (by decide)) (fun _ hk => hk.2) (.slice Ao14 t540.length co14)) (fun _ hk => hk.2) (.slice Ao17 t543.length co17)) (fun _ hk => hk.2) (.slice Ao18 t546.length co18)) (fun _ hk => hk.2) (.int .i64 t549)) (fun _ hk => hk.2) (.int .i64 t550)) (fun _ h_ => h_.1))) hb); have n3_ := Aside0.mk (Kd.R_below (by (with_reducible repeat (first | apply Kd.R_alloc | apply Kd.R_drewN | apply Kd.R_drew)); exact (Kd.R_mono (Kd.R_far (p := ⟨gb552, 4, none⟩) (Kd.R_far (p := ⟨gb552, 3, none⟩) (Kd.R_far (p := ⟨gb552, 2, none⟩) (Kd.R_far (p := ⟨gb552, 1, none⟩) (Kd.R_far (p := ⟨gb552, 0, none⟩) (Kd.R_types HO542.out BK552.out (by decide)) (fun _ hk => hk.2) (.slice Ao14 t540.length co14)) (fun _ hk => hk.2) (.slice Ao17 t543.length co17)) (fun _ hk => hk.2) (.slice Ao18 t546.length co18)) (fun _ hk => hk.2) (.int .i64 t549)) (fun _ hk => hk.2) (.int .i64 t550)) (fun _ h_ => h_.1))) hb); have n4_ := Aside0.mk (Kd.R_below (by (with_reducible repeat (first | apply Kd.R_alloc | apply Kd.R_drewN | apply Kd.R_drew)); exact (Kd.R_mono (Kd.R_far (p := ⟨gb552, 4, none⟩) (Kd.R_far (p := ⟨gb552, 3, none⟩) (Kd.R_far (p := ⟨gb552, 2, none⟩) (Kd.R_far (p := ⟨gb552, 1, none⟩) (Kd.R_far (p := ⟨gb552, 0, none⟩) (Kd.R_types HO545.out BK552.out (by decide)) (fun _ hk => hk.2) (.slice Ao14 t540.length co14)) (fun _ hk => hk.2) (.slice Ao17 t543.length co17)) (fun _ hk => hk.2) (.slice Ao18 t546.length co18)) (fun _ hk => hk.2) (.int .i64 t549)) (fun _ hk => hk.2) (.int .i64 t550)) (fun _ h_ => h_.1))) hb); have n5_ := Aside0.mk (Kd.R_below (by (with_reducible repeat (first | apply Kd.R_alloc | apply Kd.R_drewN | apply Kd.R_drew)); exact (Kd.R_mono (Kd.R_far (p := ⟨gb552, 4, none⟩) (Kd.R_far (p := ⟨gb552, 3, none⟩) (Kd.R_far (p := ⟨gb552, 2, none⟩) (Kd.R_far (p := ⟨gb552, 1, none⟩) (Kd.R_far (p := ⟨gb552, 0, none⟩) (Kd.R_types HO548.out BK552.out (by decide)) (fun _ hk => hk.2) (.slice Ao14 t540.length co14)) (fun _ hk => hk.2) (.slice Ao17 t543.length co17)) (fun _ hk => hk.2) (.slice Ao18 t546.length co18)) (fun _ hk => hk.2) (.int .i64 t549)) (fun _ hk => hk.2) (.int .i64 t550)) (fun _ h_ => h_.1))) hb); have n6_ := Aside0.mk (blk_below (g := gb539) (o := .cells #[.slice Ao8 t527.length co8, .slice Ao10 t530.length co10, .slice Ao11 t533.length co11, .int .i64 t536, .int .i64 t537] 31 (0, 0)) (by (with_reducible repeat (first | refine blk_drewN ?_ _ | refine blk_drew ?_ | refine blk_alloc ?_ _)); refine blk_far ?_ NB539_552.out _; (with_reducible repeat (first | refine blk_drewN ?_ _ | refine blk_drew ?_ | refine blk_alloc ?_ _)); refine blk_far ?_ NB539_552.out _; (with_reducible repeat (first | refine blk_drewN ?_ _ | refine blk_drew ?_ | refine blk_alloc ?_ _)); refine blk_far ?_ NB539_552.out _; (with_reducible repeat (first | refine blk_drewN ?_ _ | refine blk_drew ?_ | refine blk_alloc ?_ _)); refine blk_far ?_ NB539_552.out _; (with_reducible repeat (first | refine blk_drewN ?_ _ | refine blk_drew ?_ | refine blk_alloc ?_ _)); refine blk_far ?_ NB539_552.out _; (with_reducible repeat (first | refine blk_drewN ?_ _ | refine blk_drew ?_ | refine blk_alloc ?_ _)); exact BK539.out) hb); have n7_ := Aside0.mk (blk_below (g := gb552) (o := .cells #[.slice Ao14 t540.length co14, .slice Ao17 t543.length co17, .slice Ao18 t546.length co18, .int .i64 t549, .int .i64 t550] 31 (0, 0)) (by (with_reducible repeat (first | refine blk_drewN ?_ _ | refine blk_drew ?_ | refine blk_alloc ?_ _)); refine blk_put (cs := #[.slice Ao14 t540.length co14, .slice Ao17 t543.length co17, .slice Ao18 t546.length co18, .int .i64 t549, .int .i64 0]) ?_ 4 _ rfl; (with_reducible repeat (first | refine blk_drewN ?_ _ | refine blk_drew ?_ | refine blk_alloc ?_ _)); refine blk_put (cs := #[.slice Ao14 t540.length co14, .slice Ao17 t543.length co17, .slice Ao18 t546.length co18, .int .i64 0, .int .i64 0]) ?_ 3 _ rfl; (with_reducible repeat (first | refine blk_drewN ?_ _ | refine blk_drew ?_ | refine blk_alloc ?_ _)); refine blk_put (cs := #[.slice Ao14 t540.length co14, .slice Ao17 t543.length co17, .slice none 0 0, .int .i64 0, .int .i64 0]) ?_ 2 _ rfl; (with_reducible repeat (first | refine blk_drewN ?_ _ | refine blk_drew ?_ | refine blk_alloc ?_ _)); refine blk_put (cs := #[.slice Ao14 t540.length co14, .slice none 0 0, .slice none 0 0, .int .i64 0, .int .i64 0]) ?_ 1 _ rfl; (with_reducible repeat (first | refine blk_drewN ?_ _ | refine blk_drew ?_ | refine blk_alloc ?_ _)); refine blk_put (cs := #[.slice none 0 0, .slice none 0 0, .slice none 0 0, .int .i64 0, .int .i64 0]) ?_ 0 _ rfl; (with_reducible repeat (first | refine blk_drewN ?_ _ | refine blk_drew ?_ | refine blk_alloc ?_ _)); exact BK552.out) hb); have n8_ := Aside0.mk (below_step (by repeat (first | (with_reducible first | exact HB.out | apply below_alloc | apply pw_below_drewN | apply below_drew1 | refine below_set ?_ GE539.out | refine below_set ?_ GE552.out) | exact HB.out)) hb); clear HO529; clear HO532; clear HO535; clear HO542; clear HO545; clear HO548; clear BK539; clear BK552; clear HB; have HO529 := n0_; have HO532 := n1_; have HO535 := n2_; have HO542 := n3_; have HO545 := n4_; have HO548 := n5_; have BK539 := n6_; have BK552 := n7_; have HB := n8_; clear n0_ n1_ n2_ n3_ n4_ n5_ n6_ n7_ n8_; (try clear hb); (try clear hb2); (try clear hk); (try clear hi)))
    go_meet
    case rel => exact ⟨_, (true), (by first | rfl | (simp; done) | (simp [*]; done) | (simp [tz_, *]; done)), H', ⟨by first | omega | exact Nat.le_refl _⟩, ⟨by (with_reducible repeat (first | apply Kd.R_alloc | apply Kd.R_drewN | apply Kd.R_drew)); exact Kd.R_mono HO529.out (fun _ hk => hk.2)⟩, ⟨by (with_reducible repeat (first | apply Kd.R_alloc | apply Kd.R_drewN | apply Kd.R_drew)); exact Kd.R_mono HO532.out (fun _ hk => ⟨hk.1.1, ⟨hk.1.2, hk.2⟩⟩)⟩, ⟨by (with_reducible repeat (first | apply Kd.R_alloc | apply Kd.R_drewN | apply Kd.R_drew)); exact Kd.R_mono HO535.out (fun _ hk => ⟨hk.1.1, ⟨hk.1.2, hk.2⟩⟩)⟩, ⟨by (with_reducible repeat (first | apply Kd.R_alloc | apply Kd.R_drewN | apply Kd.R_drew)); exact Kd.R_mono HO542.out (fun _ hk => hk.2)⟩, ⟨by (with_reducible repeat (first | apply Kd.R_alloc | apply Kd.R_drewN | apply Kd.R_drew)); exact Kd.R_mono HO545.out (fun _ hk => ⟨hk.1.2, ⟨hk.2, hk.1.1⟩⟩)⟩, ⟨by (with_reducible repeat (first | apply Kd.R_alloc | apply Kd.R_drewN | apply Kd.R_drew)); exact Kd.R_mono HO548.out (fun _ hk => ⟨hk.1.2, ⟨hk.2, hk.1.1⟩⟩)⟩, ⟨by (with_reducible repeat (first | refine blk_drewN ?_ _ | refine blk_drew ?_ | refine blk_alloc ?_ _)); exact BK539.out⟩, ⟨by (with_reducible repeat (first | refine blk_drewN ?_ _ | refine blk_drew ?_ | refine blk_alloc ?_ _)); exact BK552.out⟩, ⟨by repeat (first | (with_reducible first | exact HB.out | apply below_alloc | apply pw_below_drewN | apply below_drew1 | refine below_set ?_ GE539.out | refine below_set ?_ GE552.out) | exact HB.out)⟩⟩
  case rest =>
   clear HC5
   try clear c1
   try clear c2
   try clear c2b0
   try clear c2b1
   try clear p2
   try clear c5
   try clear c11
   try clear c15
   try clear c17
   try clear c18
   try clear c20
   try clear c21
   try clear c25
   try clear hcz16_0
   try clear hcz16_1
   try clear hcz16_2
   try clear hcz16_3
   try clear hcz16_4
   try clear hcz22_0
   try clear hcz22_1
   try clear hcz22_2
   try clear hcz22_3
   try clear hcz22_4
   try clear hcz23_0
   try clear hcz23_1
   try clear hcz23_2
   try clear hcz23_3
   try clear hcz23_4
   try clear hcz26_0
   try clear hcz26_1
   try clear hcz26_2
   try clear hcz26_3
   try clear hcz26_4
   try clear hcz27_0
   try clear hcz27_1
   try clear hcz27_2
   try clear hcz27_3
   try clear hcz27_4
   try clear hcz9_0
   try clear hcz9_1
   try clear hcz9_2
   try clear hcz9_3
   try clear hcz9_4
   try clear hfz16_0
   try clear hfz16_1
   try clear hfz16_2
   try clear hfz16_3
   try clear hfz16_4
   try clear hfz22_0
   try clear hfz22_1
   try clear hfz22_2
   try clear hfz22_3
   try clear hfz22_4
   try clear hfz23_0
   try clear hfz23_1
   try clear hfz23_2
   try clear hfz23_3
   try clear hfz23_4
   try clear hfz26_0
   try clear hfz26_1
   try clear hfz26_2
   try clear hfz26_3
   try clear hfz26_4
   try clear hfz27_0
   try clear hfz27_1
   try clear hfz27_2
   try clear hfz27_3
   try clear hfz27_4
   try clear hfz9_0
   try clear hfz9_1
   try clear hfz9_2
   try clear hfz9_3
   try clear hfz9_4
   obtain ⟨kq, x32_4, rfl, HA, HJ4, HO_540000, HO_540001, HO_540002, HO_553000, HO_553001, HO_553002, BK539, BK552, HB⟩ := hcut
   cases kq with
   | zero => exact absurd HA.out (by simp [laws_FnExactReadHead.j0])
   | succ kj4 =>
    have H := HA.out
    clear HA
    simp only [laws_FnExactReadHead.j0] at H
    by_cases c29 : x32_4 = true
    ·subst c29
     have H1 : (some false) = some r := by rw [if_pos rfl] at H; exact H
     clear H
     have H := H1
     clear H1
     exact absurd (Option.some.inj H) (by rw [hr_]; decide)
    ·replace c29 := Bool.eq_false_iff.mpr c29
     subst c29
     have H1 : ((laws_markHead.f kj4 t540 t543 t546 t549 t550 1).bind fun bt554 => ((laws_heldHead.f kj4 bt554.2.1 bt554.2.2.1 bt554.2.2.2 t549 t550 1).bind fun t558 => (if t558 < 0 then (some false) else (if t558 = bt554.1 then ((impl_ReadHead.f kj4 a0).bind fun bt559 => ((laws_eqHead.f kj4 bt559.1 bt559.2.1 bt559.2.2.1 bt559.2.2.2.1 bt559.2.2.2.2.1 t527 t530 t533 t536 t537).bind fun t572 => (if t572 = true then (laws_FnExactReadHead.j1 kj4 bt554.1 (bt559.2.2.2.2.2 != t538) bt554.2.1 bt554.2.2.1 bt554.2.2.2 t549 t550) else (laws_FnExactReadHead.j1 kj4 bt554.1 true bt554.2.1 bt554.2.2.1 bt554.2.2.2 t549 t550)))) else (some false))))) = some r := by rw [if_neg (show ¬ (false = true) by decide)] at H; exact H
     clear H
     have H := H1
     clear H1
     replace H := Option.bind_eq_some_iff.mp H
     obtain ⟨⟨t554, t555, t556, t557⟩, A300, H⟩ := H
     replace H : ((laws_heldHead.f kj4 t555 t556 t557 t549 t550 1).bind fun t558 => (if t558 < 0 then (some false) else (if t558 = t554 then ((impl_ReadHead.f kj4 a0).bind fun bt559 => ((laws_eqHead.f kj4 bt559.1 bt559.2.1 bt559.2.2.1 bt559.2.2.2.1 bt559.2.2.2.2.1 t527 t530 t533 t536 t537).bind fun t572 => (if t572 = true then (laws_FnExactReadHead.j1 kj4 t554 (bt559.2.2.2.2.2 != t538) t555 t556 t557 t549 t550) else (laws_FnExactReadHead.j1 kj4 t554 true t555 t556 t557 t549 t550)))) else (some false)))) = some r := H
     have A30 := Aside0.mk A300
     clear A300
     replace H := Option.bind_eq_some_iff.mp H
     obtain ⟨t558, A310, H⟩ := H
     replace H : (if t558 < 0 then (some false) else (if t558 = t554 then ((impl_ReadHead.f kj4 a0).bind fun bt559 => ((laws_eqHead.f kj4 bt559.1 bt559.2.1 bt559.2.2.1 bt559.2.2.2.1 bt559.2.2.2.2.1 t527 t530 t533 t536 t537).bind fun t572 => (if t572 = true then (laws_FnExactReadHead.j1 kj4 t554 (bt559.2.2.2.2.2 != t538) t555 t556 t557 t549 t550) else (laws_FnExactReadHead.j1 kj4 t554 true t555 t556 t557 t549 t550)))) else (some false))) = some r := H
     have A31 := Aside0.mk A310
     clear A310
     by_cases c32 : t558 < 0
     ·rw [if_pos c32] at H
      have c32b0 : decide (t558 < 0) = true := decide_eq_true c32
      clear c32
      exact absurd (Option.some.inj H) (by rw [hr_]; decide)
     ·rw [if_neg c32] at H
      have c32b0 : decide (t558 < 0) = false := decide_eq_false c32
      clear c32
      by_cases c38 : t558 = t554
      ·rw [if_pos c38] at H
       have c38b0 : (t558 == t554) = true := beq_iff_eq.mpr c38
       have c38b1 : (t558 != t554) = false := bne_eq_false_iff_eq.mpr c38
       clear c38
       replace H := Option.bind_eq_some_iff.mp H
       obtain ⟨⟨t559, t562, t565, t568, t569, t570⟩, A390, H⟩ := H
       replace H : ((laws_eqHead.f kj4 t559 t562 t565 t568 t569 t527 t530 t533 t536 t537).bind fun t572 => (if t572 = true then (laws_FnExactReadHead.j1 kj4 t554 (t570 != t538) t555 t556 t557 t549 t550) else (laws_FnExactReadHead.j1 kj4 t554 true t555 t556 t557 t549 t550))) = some r := H
       have A39 := Aside0.mk A390
       clear A390
       have HC40 := Aside0.mk H
       clear H
       have hnb41 := NB552_539.out
       have hnc41 := NB539_552.out
       have hcz42_0 : wc.cell? ⟨gb552, 0, none⟩ = some (.slice Ao14 t540.length co14) := (blk_cell BK552.out 0).trans rfl
       have hcz42_1 : wc.cell? ⟨gb552, 1, none⟩ = some (.slice Ao17 t543.length co17) := (blk_cell BK552.out 1).trans rfl
       have hcz42_2 : wc.cell? ⟨gb552, 2, none⟩ = some (.slice Ao18 t546.length co18) := (blk_cell BK552.out 2).trans rfl
       have hcz42_3 : wc.cell? ⟨gb552, 3, none⟩ = some (.int .i64 t549) := (blk_cell BK552.out 3).trans rfl
       have hcz42_4 : wc.cell? ⟨gb552, 4, none⟩ = some (.int .i64 t550) := (blk_cell BK552.out 4).trans rfl
       have hfz42_0 := blk_frozen BK552.out 0
       have hfz42_1 := blk_frozen BK552.out 1
       have hfz42_2 := blk_frozen BK552.out 2
       have hfz42_3 := blk_frozen BK552.out 3
       have hfz42_4 := blk_frozen BK552.out 4
       go_upto_region 16 with (first | ((with_reducible refine gate_callee (f := 19) rfl ?_); refine goesL_ (some 35) rfl rfl Tryd.func19 (by kernel_rfl) rfl #[.agg #[.slice Ao14 t540.length co14, .slice Ao17 t543.length co17, .slice Ao18 t546.length co18, .int .i64 t549, .int .i64 t550], .int .i64 1] rfl (by (try simp only [List.map_toArray, List.map_cons, List.map_nil]); first | done | rfl) ?_; (with_reducible refine (laws_markHead.calls kj4 (fun k_ => some k_ = (.slice Ao14 t540.length co14 : Value).ownBlock) (.slice Ao14 t540.length co14) t540 (fun k_ => some k_ = (.slice Ao17 t543.length co17 : Value).ownBlock) (.slice Ao17 t543.length co17) t543 (fun k_ => some k_ = (.slice Ao18 t546.length co18 : Value).ownBlock) (.slice Ao18 t546.length co18) t546 t549 t550 1 t554 t555 t556 t557 w _ ?side1 ?side2 ?side3 ?side4 ?side5 ?side6 A30.out).mono ?_); (case side1 => repeat (first | (with_reducible first | exact HB.out | apply below_alloc | apply pw_below_drewN | apply below_drew1 | refine below_set ?_ GE539.out | refine below_set ?_ GE552.out) | exact HB.out)); (case side2 => exact Kd.R_tight rfl HO_553000.out); (case side3 => exact Kd.R_tight rfl HO_553001.out); (case side4 => exact fun k_ e_ => (HO_553001.out.1 k_ e_.symm).2.2); (case side5 => exact Kd.R_tight rfl HO_553002.out); (case side6 => exact fun k_ e_ => (HO_553002.out.1 k_ e_.symm).2.2); rintro e w43 ⟨rfl, hy0, hy1, hy2, hb, hkp⟩; refine ⟨_, rfl, ?_⟩; have n0_ := Aside0.mk (Kd.R_mono (ok' := fun k_ => some k_ ≠ (.slice Ao14 t540.length co14 : Value).ownBlock) (Kd.R_keptB ((Kd.R_apart' (Kd.R_apart' HO_540000.out (Kd.R_typed HO_553001.out) (by decide)) (Kd.R_typed HO_553002.out) (by decide))) hkp (fun k_ hk_ hs_ => Or.elim hs_ (fun e_ => (hk_.1.1) e_) (fun e_ => Or.elim e_ (fun e_ => (hk_.1.2) e_) (fun e_ => (hk_.2) e_)))) (fun k_ hk_ => hk_.1.1.1)); have n1_ := Aside0.mk (Kd.R_mono (ok' := fun k_ => some k_ ≠ (.slice Ao11 t533.length co11 : Value).ownBlock ∧ some k_ ≠ (.slice Ao17 t543.length co17 : Value).ownBlock ∧ some k_ ≠ (.slice Ao18 t546.length co18 : Value).ownBlock) (Kd.R_keptB ((Kd.R_apart' HO_540001.out (Kd.R_typed HO_553000.out) (by decide))) hkp (fun k_ hk_ hs_ => Or.elim hs_ (fun e_ => (hk_.2) e_) (fun e_ => Or.elim e_ (fun e_ => (hk_.1.2.1) e_) (fun e_ => (hk_.1.2.2) e_)))) (fun k_ hk_ => ⟨hk_.1.1.1, hk_.1.1.2.1, hk_.1.1.2.2⟩)); have n2_ := Aside0.mk (Kd.R_mono (ok' := fun k_ => some k_ ≠ (.slice Ao10 t530.length co10 : Value).ownBlock ∧ some k_ ≠ (.slice Ao17 t543.length co17 : Value).ownBlock ∧ some k_ ≠ (.slice Ao18 t546.length co18 : Value).ownBlock) (Kd.R_keptB ((Kd.R_apart' HO_540002.out (Kd.R_typed HO_553000.out) (by decide))) hkp (fun k_ hk_ hs_ => Or.elim hs_ (fun e_ => (hk_.2) e_) (fun e_ => Or.elim e_ (fun e_ => (hk_.1.2.1) e_) (fun e_ => (hk_.1.2.2) e_)))) (fun k_ hk_ => ⟨hk_.1.1.1, hk_.1.1.2.1, hk_.1.1.2.2⟩)); have n3_ := Aside0.mk (Kd.R_reok rfl hy0 (fun k_ e_ => HO_553000.out.1 k_ e_)); have n4_ := Aside0.mk (Kd.R_reok rfl hy1 (fun k_ e_ => HO_553001.out.1 k_ e_)); have n5_ := Aside0.mk (Kd.R_reok rfl hy2 (fun k_ e_ => HO_553002.out.1 k_ e_)); have n6_ := Aside0.mk (blk_kept (by (with_reducible repeat (first | refine blk_drewN ?_ _ | refine blk_drew ?_ | refine blk_alloc ?_ _)); exact BK539.out) hkp (fun hs_ => Or.elim hs_ (fun e_ => (fun e_ => (Kd.R_ne HO_553000.out BK539.out (by decide)) e_) e_) (fun e_ => Or.elim e_ (fun e_ => (fun e_ => (Kd.R_ne HO_553001.out BK539.out (by decide)) e_) e_) (fun e_ => (fun e_ => (Kd.R_ne HO_553002.out BK539.out (by decide)) e_) e_)))); have n7_ := Aside0.mk (blk_kept (by (with_reducible repeat (first | refine blk_drewN ?_ _ | refine blk_drew ?_ | refine blk_alloc ?_ _)); exact BK552.out) hkp (fun hs_ => Or.elim hs_ (fun e_ => (fun e_ => (Kd.R_ne HO_553000.out BK552.out (by decide)) e_) e_) (fun e_ => Or.elim e_ (fun e_ => (fun e_ => (Kd.R_ne HO_553001.out BK552.out (by decide)) e_) e_) (fun e_ => (fun e_ => (Kd.R_ne HO_553002.out BK552.out (by decide)) e_) e_)))); have n8_ := Aside0.mk (hb); clear HO_540000; clear HO_540001; clear HO_540002; clear HO_553000; clear HO_553001; clear HO_553002; clear BK539; clear BK552; clear HB; have HO_540000 := n0_; have HO_540001 := n1_; have HO_540002 := n2_; have HO_553000 := n3_; have HO_553001 := n4_; have HO_553002 := n5_; have BK539 := n6_; have BK552 := n7_; have HB := n8_; clear n0_ n1_ n2_ n3_ n4_ n5_ n6_ n7_ n8_; (try clear hb); (try clear hkp); (try clear hy0); (try clear hy1); (try clear hy2); have hcz44_0 : w43.cell? ⟨gb552, 0, none⟩ = some (.slice Ao14 t540.length co14) := (blk_cell BK552.out 0).trans rfl; have hcz44_1 : w43.cell? ⟨gb552, 1, none⟩ = some (.slice Ao17 t543.length co17) := (blk_cell BK552.out 1).trans rfl; have hcz44_2 : w43.cell? ⟨gb552, 2, none⟩ = some (.slice Ao18 t546.length co18) := (blk_cell BK552.out 2).trans rfl; have hcz44_3 : w43.cell? ⟨gb552, 3, none⟩ = some (.int .i64 t549) := (blk_cell BK552.out 3).trans rfl; have hcz44_4 : w43.cell? ⟨gb552, 4, none⟩ = some (.int .i64 t550) := (blk_cell BK552.out 4).trans rfl; have hfz44_0 := blk_frozen BK552.out 0; have hfz44_1 := blk_frozen BK552.out 1; have hfz44_2 := blk_frozen BK552.out 2; have hfz44_3 := blk_frozen BK552.out 3; have hfz44_4 := blk_frozen BK552.out 4) | ((with_reducible refine gate_callee (f := 20) rfl ?_); refine goesL_ (some 38) rfl rfl Tryd.func20 (by kernel_rfl) rfl #[.agg #[.slice Ao14 t555.length co14, .slice Ao17 t556.length co17, .slice Ao18 t557.length co18, .int .i64 t549, .int .i64 t550], .int .i64 1] rfl (by (try simp only [List.map_toArray, List.map_cons, List.map_nil]); first | done | (rw [show t555.length = t540.length from (Kd.R_reads' HO_553000.out).1.symm, show t556.length = t543.length from (Kd.R_reads' HO_553001.out).1.symm, show t557.length = t546.length from (Kd.R_reads' HO_553002.out).1.symm] <;> rfl) | rfl | (simp only [List.length_drop, List.length_take]; rfl)) ?_; (with_reducible refine (laws_heldHead.calls kj4 _ _ t555 _ _ t556 _ _ t557 t549 t550 1 t558 _ ?side1 ?side2 ?side3 ?side4 ?side5 ?side6 A31.out).mono ?_); (case side1 => repeat (first | exact (Kd.R_reads' HO_553000.out).2.2 | (with_reducible first | refine Kd.C_alloc ?_ _ | refine Kd.C_drewN ?_ _ | refine Kd.C_drew ?_))); (case side2 => rw [show t555.length = t540.length from (Kd.R_reads' HO_553000.out).1.symm]; exact (Kd.R_reads' HO_553000.out).2.1); (case side3 => repeat (first | exact (Kd.R_reads' HO_553001.out).2.2 | (with_reducible first | refine Kd.C_alloc ?_ _ | refine Kd.C_drewN ?_ _ | refine Kd.C_drew ?_))); (case side4 => rw [show t556.length = t543.length from (Kd.R_reads' HO_553001.out).1.symm]; exact (Kd.R_reads' HO_553001.out).2.1); (case side5 => repeat (first | exact (Kd.R_reads' HO_553002.out).2.2 | (with_reducible first | refine Kd.C_alloc ?_ _ | refine Kd.C_drewN ?_ _ | refine Kd.C_drew ?_))); (case side6 => rw [show t557.length = t546.length from (Kd.R_reads' HO_553002.out).1.symm]; exact (Kd.R_reads' HO_553002.out).2.1); rintro e w45 ⟨rfl, hb⟩; refine ⟨_, rfl, ?_⟩; have n0_ := Aside0.mk (Kd.R_below (by (with_reducible repeat (first | apply Kd.R_alloc | apply Kd.R_drewN | apply Kd.R_drew)); exact HO_540000.out) hb); have n1_ := Aside0.mk (Kd.R_below (by (with_reducible repeat (first | apply Kd.R_alloc | apply Kd.R_drewN | apply Kd.R_drew)); exact HO_540001.out) hb); have n2_ := Aside0.mk (Kd.R_below (by (with_reducible repeat (first | apply Kd.R_alloc | apply Kd.R_drewN | apply Kd.R_drew)); exact HO_540002.out) hb); have n3_ := Aside0.mk (Kd.R_below (by (with_reducible repeat (first | apply Kd.R_alloc | apply Kd.R_drewN | apply Kd.R_drew)); exact HO_553000.out) hb); have n4_ := Aside0.mk (Kd.R_below (by (with_reducible repeat (first | apply Kd.R_alloc | apply Kd.R_drewN | apply Kd.R_drew)); exact HO_553001.out) hb); have n5_ := Aside0.mk (Kd.R_below (by (with_reducible repeat (first | apply Kd.R_alloc | apply Kd.R_drewN | apply Kd.R_drew)); exact HO_553002.out) hb); have n6_ := Aside0.mk (blk_below (g := gb539) (o := .cells #[.slice Ao8 t527.length co8, .slice Ao10 t530.length co10, .slice Ao11 t533.length co11, .int .i64 t536, .int .i64 t537] 31 (0, 0)) (by (with_reducible repeat (first | refine blk_drewN ?_ _ | refine blk_drew ?_ | refine blk_alloc ?_ _)); exact BK539.out) hb); have n7_ := Aside0.mk (blk_below (g := gb552) (o := .cells #[.slice Ao14 t540.length co14, .slice Ao17 t543.length co17, .slice Ao18 t546.length co18, .int .i64 t549, .int .i64 t550] 31 (0, 0)) (by (with_reducible repeat (first | refine blk_drewN ?_ _ | refine blk_drew ?_ | refine blk_alloc ?_ _)); exact BK552.out) hb); have n8_ := Aside0.mk (below_step (by repeat (first | (with_reducible first | exact HB.out | apply below_alloc | apply pw_below_drewN | apply below_drew1 | refine below_set ?_ GE539.out | refine below_set ?_ GE552.out) | exact HB.out)) hb); clear HO_540000; clear HO_540001; clear HO_540002; clear HO_553000; clear HO_553001; clear HO_553002; clear BK539; clear BK552; clear HB; have HO_540000 := n0_; have HO_540001 := n1_; have HO_540002 := n2_; have HO_553000 := n3_; have HO_553001 := n4_; have HO_553002 := n5_; have BK539 := n6_; have BK552 := n7_; have HB := n8_; clear n0_ n1_ n2_ n3_ n4_ n5_ n6_ n7_ n8_; (try clear hb); (try clear hb2); (try clear hk); (try clear hi)) | ((with_reducible refine gate_callee (f := 18) rfl ?_); refine goesL_ (some 46) rfl rfl Tryd.func18 (by kernel_rfl) rfl #[.string a0] rfl (by (try simp only [List.map_toArray, List.map_cons, List.map_nil]); first | done | rfl) ?_; (with_reducible refine (impl_ReadHead.calls kj4 a0 t559 t562 t565 t568 t569 t570 _ ?side1 A39.out).mono ?_); (case side1 => exact Tab2.on HLT_.out (by repeat (first | (with_reducible first | exact HB.out | apply below_alloc | apply pw_below_drewN | apply below_drew1 | refine below_set ?_ GE539.out | refine below_set ?_ GE552.out) | exact HB.out))); rintro e w46 ⟨v560, v563, v566, rfl, ho0, ho1, ho2, hb⟩; refine ⟨_, rfl, ?_⟩; have n0_ := Aside0.mk (Kd.R_elder' (by (with_reducible repeat (first | apply Kd.R_alloc | apply Kd.R_drewN | apply Kd.R_drew)); exact HO_540000.out) (Kd.R_base ho0) hb); have n1_ := Aside0.mk (Kd.R_mono (Kd.R_told (Kd.R_told (Kd.R_old (by (with_reducible repeat (first | apply Kd.R_alloc | apply Kd.R_drewN | apply Kd.R_drew)); exact HO_540001.out) hb) (Kd.R_base ho1)) (Kd.R_base ho2)) (fun _ h_ => h_.1)); have n2_ := Aside0.mk (Kd.R_mono (Kd.R_told (Kd.R_told (Kd.R_old (by (with_reducible repeat (first | apply Kd.R_alloc | apply Kd.R_drewN | apply Kd.R_drew)); exact HO_540002.out) hb) (Kd.R_base ho1)) (Kd.R_base ho2)) (fun _ h_ => h_.1)); have n3_ := Aside0.mk (Kd.R_elder' (by (with_reducible repeat (first | apply Kd.R_alloc | apply Kd.R_drewN | apply Kd.R_drew)); exact HO_553000.out) (Kd.R_base ho0) hb); have n4_ := Aside0.mk (Kd.R_mono (Kd.R_told (Kd.R_told (Kd.R_old (by (with_reducible repeat (first | apply Kd.R_alloc | apply Kd.R_drewN | apply Kd.R_drew)); exact HO_553001.out) hb) (Kd.R_base ho1)) (Kd.R_base ho2)) (fun _ h_ => h_.1)); have n5_ := Aside0.mk (Kd.R_mono (Kd.R_told (Kd.R_told (Kd.R_old (by (with_reducible repeat (first | apply Kd.R_alloc | apply Kd.R_drewN | apply Kd.R_drew)); exact HO_553002.out) hb) (Kd.R_base ho1)) (Kd.R_base ho2)) (fun _ h_ => h_.1)); have n6_ := Aside0.mk (Kd.R_lower (Kd.R_new' (Kd.R_new' ho0 (Kd.R_lt (by (with_reducible repeat (first | apply Kd.R_alloc | apply Kd.R_drewN | apply Kd.R_drew)); exact HO_540000.out))) (Kd.R_lt (by (with_reducible repeat (first | apply Kd.R_alloc | apply Kd.R_drewN | apply Kd.R_drew)); exact HO_553000.out))) (below_size (by repeat (first | (with_reducible first | exact HB.out | apply below_alloc | apply pw_below_drewN | apply below_drew1 | refine below_set ?_ GE539.out | refine below_set ?_ GE552.out) | exact HB.out)))); have n7_ := Aside0.mk (Kd.R_lower (Kd.R_new' (Kd.R_new' (Kd.R_new' (Kd.R_new' ho1 (Kd.R_lt (by (with_reducible repeat (first | apply Kd.R_alloc | apply Kd.R_drewN | apply Kd.R_drew)); exact HO_540001.out))) (Kd.R_lt (by (with_reducible repeat (first | apply Kd.R_alloc | apply Kd.R_drewN | apply Kd.R_drew)); exact HO_540002.out))) (Kd.R_lt (by (with_reducible repeat (first | apply Kd.R_alloc | apply Kd.R_drewN | apply Kd.R_drew)); exact HO_553001.out))) (Kd.R_lt (by (with_reducible repeat (first | apply Kd.R_alloc | apply Kd.R_drewN | apply Kd.R_drew)); exact HO_553002.out))) (below_size (by repeat (first | (with_reducible first | exact HB.out | apply below_alloc | apply pw_below_drewN | apply below_drew1 | refine below_set ?_ GE539.out | refine below_set ?_ GE552.out) | exact HB.out)))); have n8_ := Aside0.mk (Kd.R_lower (Kd.R_new' (Kd.R_new' (Kd.R_new' (Kd.R_new' ho2 (Kd.R_lt (by (with_reducible repeat (first | apply Kd.R_alloc | apply Kd.R_drewN | apply Kd.R_drew)); exact HO_540001.out))) (Kd.R_lt (by (with_reducible repeat (first | apply Kd.R_alloc | apply Kd.R_drewN | apply Kd.R_drew)); exact HO_540002.out))) (Kd.R_lt (by (with_reducible repeat (first | apply Kd.R_alloc | apply Kd.R_drewN | apply Kd.R_drew)); exact HO_553001.out))) (Kd.R_lt (by (with_reducible repeat (first | apply Kd.R_alloc | apply Kd.R_drewN | apply Kd.R_drew)); exact HO_553002.out))) (below_size (by repeat (first | (with_reducible first | exact HB.out | apply below_alloc | apply pw_below_drewN | apply below_drew1 | refine below_set ?_ GE539.out | refine below_set ?_ GE552.out) | exact HB.out)))); have n9_ := Aside0.mk (blk_below (g := gb539) (o := .cells #[.slice Ao8 t527.length co8, .slice Ao10 t530.length co10, .slice Ao11 t533.length co11, .int .i64 t536, .int .i64 t537] 31 (0, 0)) (by (with_reducible repeat (first | refine blk_drewN ?_ _ | refine blk_drew ?_ | refine blk_alloc ?_ _)); exact BK539.out) hb); have n10_ := Aside0.mk (blk_below (g := gb552) (o := .cells #[.slice Ao14 t540.length co14, .slice Ao17 t543.length co17, .slice Ao18 t546.length co18, .int .i64 t549, .int .i64 t550] 31 (0, 0)) (by (with_reducible repeat (first | refine blk_drewN ?_ _ | refine blk_drew ?_ | refine blk_alloc ?_ _)); exact BK552.out) hb); have n11_ := Aside0.mk (below_step (by repeat (first | (with_reducible first | exact HB.out | apply below_alloc | apply pw_below_drewN | apply below_drew1 | refine below_set ?_ GE539.out | refine below_set ?_ GE552.out) | exact HB.out)) hb); clear HO_540000; clear HO_540001; clear HO_540002; clear HO_553000; clear HO_553001; clear HO_553002; clear BK539; clear BK552; clear HB; have HO_540000 := n0_; have HO_540001 := n1_; have HO_540002 := n2_; have HO_553000 := n3_; have HO_553001 := n4_; have HO_553002 := n5_; have HO561 := n6_; have HO564 := n7_; have HO567 := n8_; have BK539 := n9_; have BK552 := n10_; have HB := n11_; clear n0_ n1_ n2_ n3_ n4_ n5_ n6_ n7_ n8_ n9_ n10_ n11_; (try clear hb); (try clear hb2); (try clear hk); (try clear hi); (try clear ho0); (try clear ho1); (try clear ho2)) | ((with_reducible refine gate_dst (N := 9) rfl ?_); refine box_event ?hg (N := 9) ?hd (cs := #[.slice none 0 0, .slice none 0 0, .slice none 0 0, .int .i64 0, .int .i64 0]) (t := 31) ?hr ?_; (case hd => rfl); (case hg => rfl); (case hr => first | (go_simp; done) | (go_simp; rfl)); intro gb571 hg w47 hbox hb; have n0_ := Aside0.mk (Kd.R_below (by (with_reducible repeat (first | apply Kd.R_alloc | apply Kd.R_drewN | apply Kd.R_drew)); exact HO_540000.out) hb); have n1_ := Aside0.mk (Kd.R_below (by (with_reducible repeat (first | apply Kd.R_alloc | apply Kd.R_drewN | apply Kd.R_drew)); exact HO_540001.out) hb); have n2_ := Aside0.mk (Kd.R_below (by (with_reducible repeat (first | apply Kd.R_alloc | apply Kd.R_drewN | apply Kd.R_drew)); exact HO_540002.out) hb); have n3_ := Aside0.mk (Kd.R_below (by (with_reducible repeat (first | apply Kd.R_alloc | apply Kd.R_drewN | apply Kd.R_drew)); exact HO_553000.out) hb); have n4_ := Aside0.mk (Kd.R_below (by (with_reducible repeat (first | apply Kd.R_alloc | apply Kd.R_drewN | apply Kd.R_drew)); exact HO_553001.out) hb); have n5_ := Aside0.mk (Kd.R_below (by (with_reducible repeat (first | apply Kd.R_alloc | apply Kd.R_drewN | apply Kd.R_drew)); exact HO_553002.out) hb); have n6_ := Aside0.mk (Kd.R_below (by (with_reducible repeat (first | apply Kd.R_alloc | apply Kd.R_drewN | apply Kd.R_drew)); exact HO561.out) hb); have n7_ := Aside0.mk (Kd.R_below (by (with_reducible repeat (first | apply Kd.R_alloc | apply Kd.R_drewN | apply Kd.R_drew)); exact HO564.out) hb); have n8_ := Aside0.mk (Kd.R_below (by (with_reducible repeat (first | apply Kd.R_alloc | apply Kd.R_drewN | apply Kd.R_drew)); exact HO567.out) hb); have n9_ := Aside0.mk (blk_below (g := gb539) (o := .cells #[.slice Ao8 t527.length co8, .slice Ao10 t530.length co10, .slice Ao11 t533.length co11, .int .i64 t536, .int .i64 t537] 31 (0, 0)) (by (with_reducible repeat (first | refine blk_drewN ?_ _ | refine blk_drew ?_ | refine blk_alloc ?_ _)); exact BK539.out) hb); have n10_ := Aside0.mk (blk_below (g := gb552) (o := .cells #[.slice Ao14 t540.length co14, .slice Ao17 t543.length co17, .slice Ao18 t546.length co18, .int .i64 t549, .int .i64 t550] 31 (0, 0)) (by (with_reducible repeat (first | refine blk_drewN ?_ _ | refine blk_drew ?_ | refine blk_alloc ?_ _)); exact BK552.out) hb); have n11_ := Aside0.mk (below_step (by repeat (first | (with_reducible first | exact HB.out | apply below_alloc | apply pw_below_drewN | apply below_drew1 | refine below_set ?_ GE539.out | refine below_set ?_ GE552.out) | exact HB.out)) hb); have n12_ := Aside0.mk (hbox); have n13_ := Aside0.mk ((by rw [hg]; exact (below_size (by repeat (first | (with_reducible first | exact HB.out | apply below_alloc | apply pw_below_drewN | apply below_drew1 | refine below_set ?_ GE539.out | refine below_set ?_ GE552.out) | exact HB.out))) : w.heap.size ≤ gb571)); have n14_ := Aside0.mk ((by rw [hg]; exact (below_size (by repeat (first | (with_reducible first | exact HB.out | apply below_alloc | apply pw_below_drewN | apply below_drew1 | refine below_set ?_ GE539.out | refine below_set ?_ GE552.out) | exact HB.out))) : w.heap.size ≤ gb571)); have n15_ := Aside0.mk ((by rw [hg]; exact Nat.ne_of_lt (blk_lt (g := gb539) (o := .cells #[.slice Ao8 t527.length co8, .slice Ao10 t530.length co10, .slice Ao11 t533.length co11, .int .i64 t536, .int .i64 t537] 31 (0, 0)) (by (with_reducible repeat (first | refine blk_drewN ?_ _ | refine blk_drew ?_ | refine blk_alloc ?_ _)); exact BK539.out)) : gb539 ≠ gb571)); have n16_ := Aside0.mk ((by rw [hg]; exact Nat.ne_of_gt (blk_lt (g := gb539) (o := .cells #[.slice Ao8 t527.length co8, .slice Ao10 t530.length co10, .slice Ao11 t533.length co11, .int .i64 t536, .int .i64 t537] 31 (0, 0)) (by (with_reducible repeat (first | refine blk_drewN ?_ _ | refine blk_drew ?_ | refine blk_alloc ?_ _)); exact BK539.out)) : gb571 ≠ gb539)); have n17_ := Aside0.mk ((by rw [hg]; exact Nat.ne_of_lt (blk_lt (g := gb552) (o := .cells #[.slice Ao14 t540.length co14, .slice Ao17 t543.length co17, .slice Ao18 t546.length co18, .int .i64 t549, .int .i64 t550] 31 (0, 0)) (by (with_reducible repeat (first | refine blk_drewN ?_ _ | refine blk_drew ?_ | refine blk_alloc ?_ _)); exact BK552.out)) : gb552 ≠ gb571)); have n18_ := Aside0.mk ((by rw [hg]; exact Nat.ne_of_gt (blk_lt (g := gb552) (o := .cells #[.slice Ao14 t540.length co14, .slice Ao17 t543.length co17, .slice Ao18 t546.length co18, .int .i64 t549, .int .i64 t550] 31 (0, 0)) (by (with_reducible repeat (first | refine blk_drewN ?_ _ | refine blk_drew ?_ | refine blk_alloc ?_ _)); exact BK552.out)) : gb571 ≠ gb552)); clear HO_540000; clear HO_540001; clear HO_540002; clear HO_553000; clear HO_553001; clear HO_553002; clear HO561; clear HO564; clear HO567; clear BK539; clear BK552; clear HB; have HO_540000 := n0_; have HO_540001 := n1_; have HO_540002 := n2_; have HO_553000 := n3_; have HO_553001 := n4_; have HO_553002 := n5_; have HO561 := n6_; have HO564 := n7_; have HO567 := n8_; have BK539 := n9_; have BK552 := n10_; have HB := n11_; have BK571 := n12_; have GW571 := n13_; have GE571 := n14_; have NB539_571 := n15_; have NB571_539 := n16_; have NB552_571 := n17_; have NB571_552 := n18_; clear n0_ n1_ n2_ n3_ n4_ n5_ n6_ n7_ n8_ n9_ n10_ n11_ n12_ n13_ n14_ n15_ n16_ n17_ n18_; clear hb hbox hg; obtain ⟨Ao48, co48, eo48⟩ := Kd.R_slice HO561.out; subst eo48; have hnb49 := NB571_539.out; have hnc49 := NB539_571.out; have hnb50 := NB571_552.out; have hnc50 := NB552_571.out; have hcz51_0 : w47.cell? ⟨gb571, 0, none⟩ = some (.slice none 0 0) := (blk_cell BK571.out 0).trans rfl; have hcz51_1 : w47.cell? ⟨gb571, 1, none⟩ = some (.slice none 0 0) := (blk_cell BK571.out 1).trans rfl; have hcz51_2 : w47.cell? ⟨gb571, 2, none⟩ = some (.slice none 0 0) := (blk_cell BK571.out 2).trans rfl; have hcz51_3 : w47.cell? ⟨gb571, 3, none⟩ = some (.int .i64 0) := (blk_cell BK571.out 3).trans rfl; have hcz51_4 : w47.cell? ⟨gb571, 4, none⟩ = some (.int .i64 0) := (blk_cell BK571.out 4).trans rfl; have hfz51_0 := blk_frozen BK571.out 0; have hfz51_1 := blk_frozen BK571.out 1; have hfz51_2 := blk_frozen BK571.out 2; have hfz51_3 := blk_frozen BK571.out 3; have hfz51_4 := blk_frozen BK571.out 4; obtain ⟨Ao52, co52, eo52⟩ := Kd.R_slice HO564.out; subst eo52; obtain ⟨Ao53, co53, eo53⟩ := Kd.R_slice HO567.out; subst eo53))
       (try simp only [Act.put, qa_, qz_, qs_])
       go_cut [57] (fun v57 wc => ∃ (kq : Nat) (x57_39 : Bool), v57 = .bool x57_39 ∧ Aside0 (laws_FnExactReadHead.j1 kq t554 x57_39 t555 t556 t557 t549 t550 = some r) ∧ Aside0 (kq ≤ kj4) ∧ Aside0 (Kd.R k77 77 wc w.heap.size (fun k_ => some k_ ≠ ((.slice Ao14 t540.length co14) : Value).ownBlock ∧ some k_ ≠ ((.slice Ao48 t559.length co48) : Value).ownBlock) (.slice Ao8 t527.length co8) t527) ∧ Aside0 (Kd.R (Kd.int .i64) 2 wc w.heap.size (fun k_ => some k_ ≠ ((.slice Ao11 t533.length co11) : Value).ownBlock ∧ some k_ ≠ ((.slice Ao17 t543.length co17) : Value).ownBlock ∧ some k_ ≠ ((.slice Ao18 t546.length co18) : Value).ownBlock ∧ some k_ ≠ ((.slice Ao52 t562.length co52) : Value).ownBlock ∧ some k_ ≠ ((.slice Ao53 t565.length co53) : Value).ownBlock) (.slice Ao10 t530.length co10) t530) ∧ Aside0 (Kd.R (Kd.int .i64) 2 wc w.heap.size (fun k_ => some k_ ≠ ((.slice Ao10 t530.length co10) : Value).ownBlock ∧ some k_ ≠ ((.slice Ao17 t543.length co17) : Value).ownBlock ∧ some k_ ≠ ((.slice Ao18 t546.length co18) : Value).ownBlock ∧ some k_ ≠ ((.slice Ao52 t562.length co52) : Value).ownBlock ∧ some k_ ≠ ((.slice Ao53 t565.length co53) : Value).ownBlock) (.slice Ao11 t533.length co11) t533) ∧ Aside0 (Kd.R k77 77 wc w.heap.size (fun k_ => some k_ ≠ ((.slice Ao8 t527.length co8) : Value).ownBlock ∧ some k_ ≠ ((.slice Ao48 t559.length co48) : Value).ownBlock) (.slice Ao14 t540.length co14) t555) ∧ Aside0 (Kd.R (Kd.int .i64) 2 wc w.heap.size (fun k_ => some k_ ≠ ((.slice Ao10 t530.length co10) : Value).ownBlock ∧ some k_ ≠ ((.slice Ao11 t533.length co11) : Value).ownBlock ∧ some k_ ≠ ((.slice Ao18 t546.length co18) : Value).ownBlock ∧ some k_ ≠ ((.slice Ao52 t562.length co52) : Value).ownBlock ∧ some k_ ≠ ((.slice Ao53 t565.length co53) : Value).ownBlock) (.slice Ao17 t543.length co17) t556) ∧ Aside0 (Kd.R (Kd.int .i64) 2 wc w.heap.size (fun k_ => some k_ ≠ ((.slice Ao10 t530.length co10) : Value).ownBlock ∧ some k_ ≠ ((.slice Ao11 t533.length co11) : Value).ownBlock ∧ some k_ ≠ ((.slice Ao17 t543.length co17) : Value).ownBlock ∧ some k_ ≠ ((.slice Ao52 t562.length co52) : Value).ownBlock ∧ some k_ ≠ ((.slice Ao53 t565.length co53) : Value).ownBlock) (.slice Ao18 t546.length co18) t557) ∧ Aside0 (Kd.R k77 77 wc w.heap.size (fun k_ => some k_ ≠ ((.slice Ao8 t527.length co8) : Value).ownBlock ∧ some k_ ≠ ((.slice Ao14 t540.length co14) : Value).ownBlock) (.slice Ao48 t559.length co48) t559) ∧ Aside0 (Kd.R (Kd.int .i64) 2 wc w.heap.size (fun k_ => some k_ ≠ ((.slice Ao10 t530.length co10) : Value).ownBlock ∧ some k_ ≠ ((.slice Ao11 t533.length co11) : Value).ownBlock ∧ some k_ ≠ ((.slice Ao17 t543.length co17) : Value).ownBlock ∧ some k_ ≠ ((.slice Ao18 t546.length co18) : Value).ownBlock ∧ some k_ ≠ ((.slice Ao53 t565.length co53) : Value).ownBlock) (.slice Ao52 t562.length co52) t562) ∧ Aside0 (Kd.R (Kd.int .i64) 2 wc w.heap.size (fun k_ => some k_ ≠ ((.slice Ao10 t530.length co10) : Value).ownBlock ∧ some k_ ≠ ((.slice Ao11 t533.length co11) : Value).ownBlock ∧ some k_ ≠ ((.slice Ao17 t543.length co17) : Value).ownBlock ∧ some k_ ≠ ((.slice Ao18 t546.length co18) : Value).ownBlock ∧ some k_ ≠ ((.slice Ao52 t562.length co52) : Value).ownBlock) (.slice Ao53 t565.length co53) t565) ∧ Aside0 (wc.heap[gb539]? = some (.cells #[(.slice Ao8 t527.length co8), (.slice Ao10 t530.length co10), (.slice Ao11 t533.length co11), .int .i64 t536, .int .i64 t537] 31 (0, 0))) ∧ Aside0 (wc.heap[gb552]? = some (.cells #[(.slice Ao14 t540.length co14), (.slice Ao17 t543.length co17), (.slice Ao18 t546.length co18), .int .i64 t549, .int .i64 t550] 31 (0, 0))) ∧ Aside0 (wc.heap[gb571]? = some (.cells #[(.slice Ao48 t559.length co48), (.slice Ao52 t562.length co52), (.slice Ao53 t565.length co53), .int .i64 t568, .int .i64 t569] 31 (0, 0))) ∧ Aside0 (Below w.heap.size w wc))
       case first =>
        have H := HC40.out
        clear HC40
        replace H := Option.bind_eq_some_iff.mp H
        obtain ⟨t572, A540, H⟩ := H
        replace H : (if t572 = true then (laws_FnExactReadHead.j1 kj4 t554 (t570 != t538) t555 t556 t557 t549 t550) else (laws_FnExactReadHead.j1 kj4 t554 true t555 t556 t557 t549 t550)) = some r := H
        have A54 := Aside0.mk A540
        clear A540
        by_cases c55 : t572 = true
        ·subst c55
         have H1 : (laws_FnExactReadHead.j1 kj4 t554 (t570 != t538) t555 t556 t557 t549 t550) = some r := by rw [if_pos rfl] at H; exact H
         clear H
         have H := H1
         clear H1
         have H' := Aside0.mk H
         clear H
         have hnb56 := NB571_539.out
         have hnc56 := NB539_571.out
         have hnb57 := NB571_552.out
         have hnc57 := NB552_571.out
         have hcz58_0 : w47.cell? ⟨gb571, 0, none⟩ = some (.slice none 0 0) := (blk_cell BK571.out 0).trans rfl
         have hcz58_1 : w47.cell? ⟨gb571, 1, none⟩ = some (.slice none 0 0) := (blk_cell BK571.out 1).trans rfl
         have hcz58_2 : w47.cell? ⟨gb571, 2, none⟩ = some (.slice none 0 0) := (blk_cell BK571.out 2).trans rfl
         have hcz58_3 : w47.cell? ⟨gb571, 3, none⟩ = some (.int .i64 0) := (blk_cell BK571.out 3).trans rfl
         have hcz58_4 : w47.cell? ⟨gb571, 4, none⟩ = some (.int .i64 0) := (blk_cell BK571.out 4).trans rfl
         have hfz58_0 := blk_frozen BK571.out 0
         have hfz58_1 := blk_frozen BK571.out 1
         have hfz58_2 := blk_frozen BK571.out 2
         have hfz58_3 := blk_frozen BK571.out 3
         have hfz58_4 := blk_frozen BK571.out 4
         have hnb59 := NB539_552.out
         have hnc59 := NB552_539.out
         have hcz60_0 : w47.cell? ⟨gb539, 0, none⟩ = some (.slice Ao8 t527.length co8) := (blk_cell BK539.out 0).trans rfl
         have hcz60_1 : w47.cell? ⟨gb539, 1, none⟩ = some (.slice Ao10 t530.length co10) := (blk_cell BK539.out 1).trans rfl
         have hcz60_2 : w47.cell? ⟨gb539, 2, none⟩ = some (.slice Ao11 t533.length co11) := (blk_cell BK539.out 2).trans rfl
         have hcz60_3 : w47.cell? ⟨gb539, 3, none⟩ = some (.int .i64 t536) := (blk_cell BK539.out 3).trans rfl
         have hcz60_4 : w47.cell? ⟨gb539, 4, none⟩ = some (.int .i64 t537) := (blk_cell BK539.out 4).trans rfl
         have hfz60_0 := blk_frozen BK539.out 0
         have hfz60_1 := blk_frozen BK539.out 1
         have hfz60_2 := blk_frozen BK539.out 2
         have hfz60_3 := blk_frozen BK539.out 3
         have hfz60_4 := blk_frozen BK539.out 4
         go_wp2_with (first | ((with_reducible refine gate_callee (f := 11) rfl ?_); refine goesL_ (some 51) rfl rfl Tryd.func11 (by kernel_rfl) rfl #[.agg #[.slice Ao48 t559.length co48, .slice Ao52 t562.length co52, .slice Ao53 t565.length co53, .int .i64 t568, .int .i64 t569], .agg #[.slice Ao8 t527.length co8, .slice Ao10 t530.length co10, .slice Ao11 t533.length co11, .int .i64 t536, .int .i64 t537]] rfl (by (try simp only [List.map_toArray, List.map_cons, List.map_nil]); first | done | rfl) ?_; (with_reducible refine (laws_eqHead.calls kj4 _ _ t559 _ _ t562 _ _ t565 t568 t569 _ _ t527 _ _ t530 _ _ t533 t536 t537 true _ ?side1 ?side2 ?side3 ?side4 ?side5 ?side6 ?side7 ?side8 ?side9 ?side10 ?side11 ?side12 A54.out).mono ?_); (case side1 => refine (Kd.R_reads' (e := 77) (base := w.heap.size) (ok := fun k_ => ((True ∧ some k_ ≠ (.slice Ao8 t527.length co8 : Value).ownBlock) ∧ some k_ ≠ (.slice Ao14 t540.length co14 : Value).ownBlock)) (n := t559.length) (c := co48) ?_).2.2; exact (by (with_reducible repeat (first | apply Kd.R_alloc | apply Kd.R_drewN | apply Kd.R_drew)); exact (Kd.R_mono (Kd.R_far (p := ⟨gb571, 4, none⟩) (Kd.R_far (p := ⟨gb571, 3, none⟩) (Kd.R_far (p := ⟨gb571, 2, none⟩) (Kd.R_far (p := ⟨gb571, 1, none⟩) (Kd.R_far (p := ⟨gb571, 0, none⟩) (Kd.R_types HO561.out BK571.out (by decide)) (fun _ hk => hk.2) (.slice Ao48 t559.length co48)) (fun _ hk => hk.2) (.slice Ao52 t562.length co52)) (fun _ hk => hk.2) (.slice Ao53 t565.length co53)) (fun _ hk => hk.2) (.int .i64 t568)) (fun _ hk => hk.2) (.int .i64 t569)) (fun _ h_ => h_.1)))); (case side2 => exact (Kd.R_reads' HO561.out).2.1); (case side3 => refine (Kd.R_reads' (e := 2) (base := w.heap.size) (ok := fun k_ => ((((some k_ ≠ (.slice Ao53 t565.length co53 : Value).ownBlock ∧ some k_ ≠ (.slice Ao10 t530.length co10 : Value).ownBlock) ∧ some k_ ≠ (.slice Ao11 t533.length co11 : Value).ownBlock) ∧ some k_ ≠ (.slice Ao17 t543.length co17 : Value).ownBlock) ∧ some k_ ≠ (.slice Ao18 t546.length co18 : Value).ownBlock)) (n := t562.length) (c := co52) ?_).2.2; exact (by (with_reducible repeat (first | apply Kd.R_alloc | apply Kd.R_drewN | apply Kd.R_drew)); exact (Kd.R_mono (Kd.R_far (p := ⟨gb571, 4, none⟩) (Kd.R_far (p := ⟨gb571, 3, none⟩) (Kd.R_far (p := ⟨gb571, 2, none⟩) (Kd.R_far (p := ⟨gb571, 1, none⟩) (Kd.R_far (p := ⟨gb571, 0, none⟩) (Kd.R_types HO564.out BK571.out (by decide)) (fun _ hk => hk.2) (.slice Ao48 t559.length co48)) (fun _ hk => hk.2) (.slice Ao52 t562.length co52)) (fun _ hk => hk.2) (.slice Ao53 t565.length co53)) (fun _ hk => hk.2) (.int .i64 t568)) (fun _ hk => hk.2) (.int .i64 t569)) (fun _ h_ => h_.1)))); (case side4 => exact (Kd.R_reads' HO564.out).2.1); (case side5 => refine (Kd.R_reads' (e := 2) (base := w.heap.size) (ok := fun k_ => ((((some k_ ≠ (.slice Ao52 t562.length co52 : Value).ownBlock ∧ some k_ ≠ (.slice Ao10 t530.length co10 : Value).ownBlock) ∧ some k_ ≠ (.slice Ao11 t533.length co11 : Value).ownBlock) ∧ some k_ ≠ (.slice Ao17 t543.length co17 : Value).ownBlock) ∧ some k_ ≠ (.slice Ao18 t546.length co18 : Value).ownBlock)) (n := t565.length) (c := co53) ?_).2.2; exact (by (with_reducible repeat (first | apply Kd.R_alloc | apply Kd.R_drewN | apply Kd.R_drew)); exact (Kd.R_mono (Kd.R_far (p := ⟨gb571, 4, none⟩) (Kd.R_far (p := ⟨gb571, 3, none⟩) (Kd.R_far (p := ⟨gb571, 2, none⟩) (Kd.R_far (p := ⟨gb571, 1, none⟩) (Kd.R_far (p := ⟨gb571, 0, none⟩) (Kd.R_types HO567.out BK571.out (by decide)) (fun _ hk => hk.2) (.slice Ao48 t559.length co48)) (fun _ hk => hk.2) (.slice Ao52 t562.length co52)) (fun _ hk => hk.2) (.slice Ao53 t565.length co53)) (fun _ hk => hk.2) (.int .i64 t568)) (fun _ hk => hk.2) (.int .i64 t569)) (fun _ h_ => h_.1)))); (case side6 => exact (Kd.R_reads' HO567.out).2.1); (case side7 => refine (Kd.R_reads' (e := 77) (base := w.heap.size) (ok := fun k_ => (some k_ ≠ (.slice Ao14 t540.length co14 : Value).ownBlock ∧ some k_ ≠ (.slice Ao48 t559.length co48 : Value).ownBlock)) (n := t527.length) (c := co8) ?_).2.2; exact (by (with_reducible repeat (first | apply Kd.R_alloc | apply Kd.R_drewN | apply Kd.R_drew)); exact (Kd.R_mono (Kd.R_far (p := ⟨gb571, 4, none⟩) (Kd.R_far (p := ⟨gb571, 3, none⟩) (Kd.R_far (p := ⟨gb571, 2, none⟩) (Kd.R_far (p := ⟨gb571, 1, none⟩) (Kd.R_far (p := ⟨gb571, 0, none⟩) (Kd.R_types HO_540000.out BK571.out (by decide)) (fun _ hk => hk.2) (.slice Ao48 t559.length co48)) (fun _ hk => hk.2) (.slice Ao52 t562.length co52)) (fun _ hk => hk.2) (.slice Ao53 t565.length co53)) (fun _ hk => hk.2) (.int .i64 t568)) (fun _ hk => hk.2) (.int .i64 t569)) (fun _ h_ => h_.1)))); (case side8 => exact (Kd.R_reads' HO_540000.out).2.1); (case side9 => refine (Kd.R_reads' (e := 2) (base := w.heap.size) (ok := fun k_ => (((some k_ ≠ (.slice Ao11 t533.length co11 : Value).ownBlock ∧ (some k_ ≠ (.slice Ao17 t543.length co17 : Value).ownBlock ∧ some k_ ≠ (.slice Ao18 t546.length co18 : Value).ownBlock)) ∧ some k_ ≠ (.slice Ao52 t562.length co52 : Value).ownBlock) ∧ some k_ ≠ (.slice Ao53 t565.length co53 : Value).ownBlock)) (n := t530.length) (c := co10) ?_).2.2; exact (by (with_reducible repeat (first | apply Kd.R_alloc | apply Kd.R_drewN | apply Kd.R_drew)); exact (Kd.R_mono (Kd.R_far (p := ⟨gb571, 4, none⟩) (Kd.R_far (p := ⟨gb571, 3, none⟩) (Kd.R_far (p := ⟨gb571, 2, none⟩) (Kd.R_far (p := ⟨gb571, 1, none⟩) (Kd.R_far (p := ⟨gb571, 0, none⟩) (Kd.R_types HO_540001.out BK571.out (by decide)) (fun _ hk => hk.2) (.slice Ao48 t559.length co48)) (fun _ hk => hk.2) (.slice Ao52 t562.length co52)) (fun _ hk => hk.2) (.slice Ao53 t565.length co53)) (fun _ hk => hk.2) (.int .i64 t568)) (fun _ hk => hk.2) (.int .i64 t569)) (fun _ h_ => h_.1)))); (case side10 => exact (Kd.R_reads' HO_540001.out).2.1); (case side11 => refine (Kd.R_reads' (e := 2) (base := w.heap.size) (ok := fun k_ => (((some k_ ≠ (.slice Ao10 t530.length co10 : Value).ownBlock ∧ (some k_ ≠ (.slice Ao17 t543.length co17 : Value).ownBlock ∧ some k_ ≠ (.slice Ao18 t546.length co18 : Value).ownBlock)) ∧ some k_ ≠ (.slice Ao52 t562.length co52 : Value).ownBlock) ∧ some k_ ≠ (.slice Ao53 t565.length co53 : Value).ownBlock)) (n := t533.length) (c := co11) ?_).2.2; exact (by (with_reducible repeat (first | apply Kd.R_alloc | apply Kd.R_drewN | apply Kd.R_drew)); exact (Kd.R_mono (Kd.R_far (p := ⟨gb571, 4, none⟩) (Kd.R_far (p := ⟨gb571, 3, none⟩) (Kd.R_far (p := ⟨gb571, 2, none⟩) (Kd.R_far (p := ⟨gb571, 1, none⟩) (Kd.R_far (p := ⟨gb571, 0, none⟩) (Kd.R_types HO_540002.out BK571.out (by decide)) (fun _ hk => hk.2) (.slice Ao48 t559.length co48)) (fun _ hk => hk.2) (.slice Ao52 t562.length co52)) (fun _ hk => hk.2) (.slice Ao53 t565.length co53)) (fun _ hk => hk.2) (.int .i64 t568)) (fun _ hk => hk.2) (.int .i64 t569)) (fun _ h_ => h_.1)))); (case side12 => exact (Kd.R_reads' HO_540002.out).2.1); rintro e w61 ⟨rfl, hb⟩; refine ⟨_, rfl, ?_⟩; have n0_ := Aside0.mk (Kd.R_below (by (with_reducible repeat (first | apply Kd.R_alloc | apply Kd.R_drewN | apply Kd.R_drew)); exact (Kd.R_mono (Kd.R_far (p := ⟨gb571, 4, none⟩) (Kd.R_far (p := ⟨gb571, 3, none⟩) (Kd.R_far (p := ⟨gb571, 2, none⟩) (Kd.R_far (p := ⟨gb571, 1, none⟩) (Kd.R_far (p := ⟨gb571, 0, none⟩) (Kd.R_types HO_540000.out BK571.out (by decide)) (fun _ hk => hk.2) (.slice Ao48 t559.length co48)) (fun _ hk => hk.2) (.slice Ao52 t562.length co52)) (fun _ hk => hk.2) (.slice Ao53 t565.length co53)) (fun _ hk => hk.2) (.int .i64 t568)) (fun _ hk => hk.2) (.int .i64 t569)) (fun _ h_ => h_.1))) hb); have n1_ := Aside0.mk (Kd.R_below (by (with_reducible repeat (first | apply Kd.R_alloc | apply Kd.R_drewN | apply Kd.R_drew)); exact (Kd.R_mono (Kd.R_far (p := ⟨gb571, 4, none⟩) (Kd.R_far (p := ⟨gb571, 3, none⟩) (Kd.R_far (p := ⟨gb571, 2, none⟩) (Kd.R_far (p := ⟨gb571, 1, none⟩) (Kd.R_far (p := ⟨gb571, 0, none⟩) (Kd.R_types HO_540001.out BK571.out (by decide)) (fun _ hk => hk.2) (.slice Ao48 t559.length co48)) (fun _ hk => hk.2) (.slice Ao52 t562.length co52)) (fun _ hk => hk.2) (.slice Ao53 t565.length co53)) (fun _ hk => hk.2) (.int .i64 t568)) (fun _ hk => hk.2) (.int .i64 t569)) (fun _ h_ => h_.1))) hb); have n2_ := Aside0.mk (Kd.R_below (by (with_reducible repeat (first | apply Kd.R_alloc | apply Kd.R_drewN | apply Kd.R_drew)); exact (Kd.R_mono (Kd.R_far (p := ⟨gb571, 4, none⟩) (Kd.R_far (p := ⟨gb571, 3, none⟩) (Kd.R_far (p := ⟨gb571, 2, none⟩) (Kd.R_far (p := ⟨gb571, 1, none⟩) (Kd.R_far (p := ⟨gb571, 0, none⟩) (Kd.R_types HO_540002.out BK571.out (by decide)) (fun _ hk => hk.2) (.slice Ao48 t559.length co48)) (fun _ hk => hk.2) (.slice Ao52 t562.length co52)) (fun _ hk => hk.2) (.slice Ao53 t565.length co53)) (fun _ hk => hk.2) (.int .i64 t568)) (fun _ hk => hk.2) (.int .i64 t569)) (fun _ h_ => h_.1))) hb); have n3_ := Aside0.mk (Kd.R_below (by (with_reducible repeat (first | apply Kd.R_alloc | apply Kd.R_drewN | apply Kd.R_drew)); exact (Kd.R_mono (Kd.R_far (p := ⟨gb571, 4, none⟩) (Kd.R_far (p := ⟨gb571, 3, none⟩) (Kd.R_far (p := ⟨gb571, 2, none⟩) (Kd.R_far (p := ⟨gb571, 1, none⟩) (Kd.R_far (p := ⟨gb571, 0, none⟩) (Kd.R_types HO_553000.out BK571.out (by decide)) (fun _ hk => hk.2) (.slice Ao48 t559.length co48)) (fun _ hk => hk.2) (.slice Ao52 t562.length co52)) (fun _ hk => hk.2) (.slice Ao53 t565.length co53)) (fun _ hk => hk.2) (.int .i64 t568)) (fun _ hk => hk.2) (.int .i64 t569)) (fun _ h_ => h_.1))) hb); have n4_ := Aside0.mk (Kd.R_below (by (with_reducible repeat (first | apply Kd.R_alloc | apply Kd.R_drewN | apply Kd.R_drew)); exact (Kd.R_mono (Kd.R_far (p := ⟨gb571, 4, none⟩) (Kd.R_far (p := ⟨gb571, 3, none⟩) (Kd.R_far (p := ⟨gb571, 2, none⟩) (Kd.R_far (p := ⟨gb571, 1, none⟩) (Kd.R_far (p := ⟨gb571, 0, none⟩) (Kd.R_types HO_553001.out BK571.out (by decide)) (fun _ hk => hk.2) (.slice Ao48 t559.length co48)) (fun _ hk => hk.2) (.slice Ao52 t562.length co52)) (fun _ hk => hk.2) (.slice Ao53 t565.length co53)) (fun _ hk => hk.2) (.int .i64 t568)) (fun _ hk => hk.2) (.int .i64 t569)) (fun _ h_ => h_.1))) hb); have n5_ := Aside0.mk (Kd.R_below (by (with_reducible repeat (first | apply Kd.R_alloc | apply Kd.R_drewN | apply Kd.R_drew)); exact (Kd.R_mono (Kd.R_far (p := ⟨gb571, 4, none⟩) (Kd.R_far (p := ⟨gb571, 3, none⟩) (Kd.R_far (p := ⟨gb571, 2, none⟩) (Kd.R_far (p := ⟨gb571, 1, none⟩) (Kd.R_far (p := ⟨gb571, 0, none⟩) (Kd.R_types HO_553002.out BK571.out (by decide)) (fun _ hk => hk.2) (.slice Ao48 t559.length co48)) (fun _ hk => hk.2) (.slice Ao52 t562.length co52)) (fun _ hk => hk.2) (.slice Ao53 t565.length co53)) (fun _ hk => hk.2) (.int .i64 t568)) (fun _ hk => hk.2) (.int .i64 t569)) (fun _ h_ => h_.1))) hb); have n6_ := Aside0.mk (Kd.R_below (by (with_reducible repeat (first | apply Kd.R_alloc | apply Kd.R_drewN | apply Kd.R_drew)); exact (Kd.R_mono (Kd.R_far (p := ⟨gb571, 4, none⟩) (Kd.R_far (p := ⟨gb571, 3, none⟩) (Kd.R_far (p := ⟨gb571, 2, none⟩) (Kd.R_far (p := ⟨gb571, 1, none⟩) (Kd.R_far (p := ⟨gb571, 0, none⟩) (Kd.R_types HO561.out BK571.out (by decide)) (fun _ hk => hk.2) (.slice Ao48 t559.length co48)) (fun _ hk => hk.2) (.slice Ao52 t562.length co52)) (fun _ hk => hk.2) (.slice Ao53 t565.length co53)) (fun _ hk => hk.2) (.int .i64 t568)) (fun _ hk => hk.2) (.int .i64 t569)) (fun _ h_ => h_.1))) hb); have n7_ := Aside0.mk (Kd.R_below (by (with_reducible repeat (first | apply Kd.R_alloc | apply Kd.R_drewN | apply Kd.R_drew)); exact (Kd.R_mono (Kd.R_far (p := ⟨gb571, 4, none⟩) (Kd.R_far (p := ⟨gb571, 3, none⟩) (Kd.R_far (p := ⟨gb571, 2, none⟩) (Kd.R_far (p := ⟨gb571, 1, none⟩) (Kd.R_far (p := ⟨gb571, 0, none⟩) (Kd.R_types HO564.out BK571.out (by decide)) (fun _ hk => hk.2) (.slice Ao48 t559.length co48)) (fun _ hk => hk.2) (.slice Ao52 t562.length co52)) (fun _ hk => hk.2) (.slice Ao53 t565.length co53)) (fun _ hk => hk.2) (.int .i64 t568)) (fun _ hk => hk.2) (.int .i64 t569)) (fun _ h_ => h_.1))) hb); have n8_ := Aside0.mk (Kd.R_below (by (with_reducible repeat (first | apply Kd.R_alloc | apply Kd.R_drewN | apply Kd.R_drew)); exact (Kd.R_mono (Kd.R_far (p := ⟨gb571, 4, none⟩) (Kd.R_far (p := ⟨gb571, 3, none⟩) (Kd.R_far (p := ⟨gb571, 2, none⟩) (Kd.R_far (p := ⟨gb571, 1, none⟩) (Kd.R_far (p := ⟨gb571, 0, none⟩) (Kd.R_types HO567.out BK571.out (by decide)) (fun _ hk => hk.2) (.slice Ao48 t559.length co48)) (fun _ hk => hk.2) (.slice Ao52 t562.length co52)) (fun _ hk => hk.2) (.slice Ao53 t565.length co53)) (fun _ hk => hk.2) (.int .i64 t568)) (fun _ hk => hk.2) (.int .i64 t569)) (fun _ h_ => h_.1))) hb); have n9_ := Aside0.mk (blk_below (g := gb539) (o := .cells #[.slice Ao8 t527.length co8, .slice Ao10 t530.length co10, .slice Ao11 t533.length co11, .int .i64 t536, .int .i64 t537] 31 (0, 0)) (by (with_reducible repeat (first | refine blk_drewN ?_ _ | refine blk_drew ?_ | refine blk_alloc ?_ _)); refine blk_far ?_ NB539_571.out _; (with_reducible repeat (first | refine blk_drewN ?_ _ | refine blk_drew ?_ | refine blk_alloc ?_ _)); refine blk_far ?_ NB539_571.out _; (with_reducible repeat (first | refine blk_drewN ?_ _ | refine blk_drew ?_ | refine blk_alloc ?_ _)); refine blk_far ?_ NB539_571.out _; (with_reducible repeat (first | refine blk_drewN ?_ _ | refine blk_drew ?_ | refine blk_alloc ?_ _)); refine blk_far ?_ NB539_571.out _; (with_reducible repeat (first | refine blk_drewN ?_ _ | refine blk_drew ?_ | refine blk_alloc ?_ _)); refine blk_far ?_ NB539_571.out _; (with_reducible repeat (first | refine blk_drewN ?_ _ | refine blk_drew ?_ | refine blk_alloc ?_ _)); exact BK539.out) hb); have n10_ := Aside0.mk (blk_below (g := gb552) (o := .cells #[.slice Ao14 t540.length co14, .slice Ao17 t543.length co17, .slice Ao18 t546.length co18, .int .i64 t549, .int .i64 t550] 31 (0, 0)) (by (with_reducible repeat (first | refine blk_drewN ?_ _ | refine blk_drew ?_ | refine blk_alloc ?_ _)); refine blk_far ?_ NB552_571.out _; (with_reducible repeat (first | refine blk_drewN ?_ _ | refine blk_drew ?_ | refine blk_alloc ?_ _)); refine blk_far ?_ NB552_571.out _; (with_reducible repeat (first | refine blk_drewN ?_ _ | refine blk_drew ?_ | refine blk_alloc ?_ _)); refine blk_far ?_ NB552_571.out _; (with_reducible repeat (first | refine blk_drewN ?_ _ | refine blk_drew ?_ | refine blk_alloc ?_ _)); refine blk_far ?_ NB552_571.out _; (with_reducible repeat (first | refine blk_drewN ?_ _ | refine blk_drew ?_ | refine blk_alloc ?_ _)); refine blk_far ?_ NB552_571.out _; (with_reducible repeat (first | refine blk_drewN ?_ _ | refine blk_drew ?_ | refine blk_alloc ?_ _)); exact BK552.out) hb); have n11_ := Aside0.mk (blk_below (g := gb571) (o := .cells #[.slice Ao48 t559.length co48, .slice Ao52 t562.length co52, .slice Ao53 t565.length co53, .int .i64 t568, .int .i64 t569] 31 (0, 0)) (by (with_reducible repeat (first | refine blk_drewN ?_ _ | refine blk_drew ?_ | refine blk_alloc ?_ _)); refine blk_put (cs := #[.slice Ao48 t559.length co48, .slice Ao52 t562.length co52, .slice Ao53 t565.length co53, .int .i64 t568, .int .i64 0]) ?_ 4 _ rfl; (with_reducible repeat (first | refine blk_drewN ?_ _ | refine blk_drew ?_ | refine blk_alloc ?_ _)); refine blk_put (cs := #[.slice Ao48 t559.length co48, .slice Ao52 t562.length co52, .slice Ao53 t565.length co53, .int .i64 0, .int .i64 0]) ?_ 3 _ rfl; (with_reducible repeat (first | refine blk_drewN ?_ _ | refine blk_drew ?_ | refine blk_alloc ?_ _)); refine blk_put (cs := #[.slice Ao48 t559.length co48, .slice Ao52 t562.length co52, .slice none 0 0, .int .i64 0, .int .i64 0]) ?_ 2 _ rfl; (with_reducible repeat (first | refine blk_drewN ?_ _ | refine blk_drew ?_ | refine blk_alloc ?_ _)); refine blk_put (cs := #[.slice Ao48 t559.length co48, .slice none 0 0, .slice none 0 0, .int .i64 0, .int .i64 0]) ?_ 1 _ rfl; (with_reducible repeat (first | refine blk_drewN ?_ _ | refine blk_drew ?_ | refine blk_alloc ?_ _)); refine blk_put (cs := #[.slice none 0 0, .slice none 0 0, .slice none 0 0, .int .i64 0, .int .i64 0]) ?_ 0 _ rfl; (with_reducible repeat (first | refine blk_drewN ?_ _ | refine blk_drew ?_ | refine blk_alloc ?_ _)); exact BK571.out) hb); have n12_ := Aside0.mk (below_step (by repeat (first | (with_reducible first | exact HB.out | apply below_alloc | apply pw_below_drewN | apply below_drew1 | refine below_set ?_ GE539.out | refine below_set ?_ GE552.out | refine below_set ?_ GE571.out) | exact HB.out)) hb); clear HO_540000; clear HO_540001; clear HO_540002; clear HO_553000; clear HO_553001; clear HO_553002; clear HO561; clear HO564; clear HO567; clear BK539; clear BK552; clear BK571; clear HB; have HO_540000 := n0_; have HO_540001 := n1_; have HO_540002 := n2_; have HO_553000 := n3_; have HO_553001 := n4_; have HO_553002 := n5_; have HO561 := n6_; have HO564 := n7_; have HO567 := n8_; have BK539 := n9_; have BK552 := n10_; have BK571 := n11_; have HB := n12_; clear n0_ n1_ n2_ n3_ n4_ n5_ n6_ n7_ n8_ n9_ n10_ n11_ n12_; (try clear hb); (try clear hb2); (try clear hk); (try clear hi)))
         go_meet
         case rel => exact ⟨_, ((t570 != t538)), (by first | rfl | (simp; done) | (simp [*]; done) | (simp [tz_, *]; done)), H', ⟨by have := HJ4.out; first | omega | exact Nat.le_refl _⟩, ⟨by (with_reducible repeat (first | apply Kd.R_alloc | apply Kd.R_drewN | apply Kd.R_drew)); exact HO_540000.out⟩, ⟨by (with_reducible repeat (first | apply Kd.R_alloc | apply Kd.R_drewN | apply Kd.R_drew)); exact Kd.R_mono HO_540001.out (fun _ hk => ⟨hk.1.1.1, ⟨hk.1.1.2.1, ⟨hk.1.1.2.2, ⟨hk.1.2, hk.2⟩⟩⟩⟩)⟩, ⟨by (with_reducible repeat (first | apply Kd.R_alloc | apply Kd.R_drewN | apply Kd.R_drew)); exact Kd.R_mono HO_540002.out (fun _ hk => ⟨hk.1.1.1, ⟨hk.1.1.2.1, ⟨hk.1.1.2.2, ⟨hk.1.2, hk.2⟩⟩⟩⟩)⟩, ⟨by (with_reducible repeat (first | apply Kd.R_alloc | apply Kd.R_drewN | apply Kd.R_drew)); exact HO_553000.out⟩, ⟨by (with_reducible repeat (first | apply Kd.R_alloc | apply Kd.R_drewN | apply Kd.R_drew)); exact Kd.R_mono HO_553001.out (fun _ hk => ⟨hk.1.1.1, ⟨hk.1.1.2.1, ⟨hk.1.1.2.2, ⟨hk.1.2, hk.2⟩⟩⟩⟩)⟩, ⟨by (with_reducible repeat (first | apply Kd.R_alloc | apply Kd.R_drewN | apply Kd.R_drew)); exact Kd.R_mono HO_553002.out (fun _ hk => ⟨hk.1.1.1, ⟨hk.1.1.2.1, ⟨hk.1.1.2.2, ⟨hk.1.2, hk.2⟩⟩⟩⟩)⟩, ⟨by (with_reducible repeat (first | apply Kd.R_alloc | apply Kd.R_drewN | apply Kd.R_drew)); exact Kd.R_mono HO561.out (fun _ hk => ⟨hk.1.2, hk.2⟩)⟩, ⟨by (with_reducible repeat (first | apply Kd.R_alloc | apply Kd.R_drewN | apply Kd.R_drew)); exact Kd.R_mono HO564.out (fun _ hk => ⟨hk.1.1.1.2, ⟨hk.1.1.2, ⟨hk.1.2, ⟨hk.2, hk.1.1.1.1⟩⟩⟩⟩)⟩, ⟨by (with_reducible repeat (first | apply Kd.R_alloc | apply Kd.R_drewN | apply Kd.R_drew)); exact Kd.R_mono HO567.out (fun _ hk => ⟨hk.1.1.1.2, ⟨hk.1.1.2, ⟨hk.1.2, ⟨hk.2, hk.1.1.1.1⟩⟩⟩⟩)⟩, ⟨by (with_reducible repeat (first | refine blk_drewN ?_ _ | refine blk_drew ?_ | refine blk_alloc ?_ _)); exact BK539.out⟩, ⟨by (with_reducible repeat (first | refine blk_drewN ?_ _ | refine blk_drew ?_ | refine blk_alloc ?_ _)); exact BK552.out⟩, ⟨by (with_reducible repeat (first | refine blk_drewN ?_ _ | refine blk_drew ?_ | refine blk_alloc ?_ _)); exact BK571.out⟩, ⟨by repeat (first | (with_reducible first | exact HB.out | apply below_alloc | apply pw_below_drewN | apply below_drew1 | refine below_set ?_ GE539.out | refine below_set ?_ GE552.out | refine below_set ?_ GE571.out) | exact HB.out)⟩⟩
        ·replace c55 := Bool.eq_false_iff.mpr c55
         subst c55
         have H1 : (laws_FnExactReadHead.j1 kj4 t554 true t555 t556 t557 t549 t550) = some r := by rw [if_neg (show ¬ (false = true) by decide)] at H; exact H
         clear H
         have H := H1
         clear H1
         have H' := Aside0.mk H
         clear H
         have hnb62 := NB571_539.out
         have hnc62 := NB539_571.out
         have hnb63 := NB571_552.out
         have hnc63 := NB552_571.out
         have hcz64_0 : w47.cell? ⟨gb571, 0, none⟩ = some (.slice none 0 0) := (blk_cell BK571.out 0).trans rfl
         have hcz64_1 : w47.cell? ⟨gb571, 1, none⟩ = some (.slice none 0 0) := (blk_cell BK571.out 1).trans rfl
         have hcz64_2 : w47.cell? ⟨gb571, 2, none⟩ = some (.slice none 0 0) := (blk_cell BK571.out 2).trans rfl
         have hcz64_3 : w47.cell? ⟨gb571, 3, none⟩ = some (.int .i64 0) := (blk_cell BK571.out 3).trans rfl
         have hcz64_4 : w47.cell? ⟨gb571, 4, none⟩ = some (.int .i64 0) := (blk_cell BK571.out 4).trans rfl
         have hfz64_0 := blk_frozen BK571.out 0
         have hfz64_1 := blk_frozen BK571.out 1
         have hfz64_2 := blk_frozen BK571.out 2
         have hfz64_3 := blk_frozen BK571.out 3
         have hfz64_4 := blk_frozen BK571.out 4
         have hnb65 := NB539_552.out
         have hnc65 := NB552_539.out
         have hcz66_0 : w47.cell? ⟨gb539, 0, none⟩ = some (.slice Ao8 t527.length co8) := (blk_cell BK539.out 0).trans rfl
         have hcz66_1 : w47.cell? ⟨gb539, 1, none⟩ = some (.slice Ao10 t530.length co10) := (blk_cell BK539.out 1).trans rfl
         have hcz66_2 : w47.cell? ⟨gb539, 2, none⟩ = some (.slice Ao11 t533.length co11) := (blk_cell BK539.out 2).trans rfl
         have hcz66_3 : w47.cell? ⟨gb539, 3, none⟩ = some (.int .i64 t536) := (blk_cell BK539.out 3).trans rfl
         have hcz66_4 : w47.cell? ⟨gb539, 4, none⟩ = some (.int .i64 t537) := (blk_cell BK539.out 4).trans rfl
         have hfz66_0 := blk_frozen BK539.out 0
         have hfz66_1 := blk_frozen BK539.out 1
         have hfz66_2 := blk_frozen BK539.out 2
         have hfz66_3 := blk_frozen BK539.out 3
         have hfz66_4 := blk_frozen BK539.out 4
         go_wp2_with (first | ((with_reducible refine gate_callee (f := 11) rfl ?_); refine goesL_ (some 51) rfl rfl Tryd.func11 (by kernel_rfl) rfl #[.agg #[.slice Ao48 t559.length co48, .slice Ao52 t562.length co52, .slice Ao53 t565.length co53, .int .i64 t568, .int .i64 t569], .agg #[.slice Ao8 t527.length co8, .slice Ao10 t530.length co10, .slice Ao11 t533.length co11, .int .i64 t536, .int .i64 t537]] rfl (by (try simp only [List.map_toArray, List.map_cons, List.map_nil]); first | done | rfl) ?_; (with_reducible refine (laws_eqHead.calls kj4 _ _ t559 _ _ t562 _ _ t565 t568 t569 _ _ t527 _ _ t530 _ _ t533 t536 t537 false _ ?side1 ?side2 ?side3 ?side4 ?side5 ?side6 ?side7 ?side8 ?side9 ?side10 ?side11 ?side12 A54.out).mono ?_); (case side1 => refine (Kd.R_reads' (e := 77) (base := w.heap.size) (ok := fun k_ => ((True ∧ some k_ ≠ (.slice Ao8 t527.length co8 : Value).ownBlock) ∧ some k_ ≠ (.slice Ao14 t540.length co14 : Value).ownBlock)) (n := t559.length) (c := co48) ?_).2.2; exact (by (with_reducible repeat (first | apply Kd.R_alloc | apply Kd.R_drewN | apply Kd.R_drew)); exact (Kd.R_mono (Kd.R_far (p := ⟨gb571, 4, none⟩) (Kd.R_far (p := ⟨gb571, 3, none⟩) (Kd.R_far (p := ⟨gb571, 2, none⟩) (Kd.R_far (p := ⟨gb571, 1, none⟩) (Kd.R_far (p := ⟨gb571, 0, none⟩) (Kd.R_types HO561.out BK571.out (by decide)) (fun _ hk => hk.2) (.slice Ao48 t559.length co48)) (fun _ hk => hk.2) (.slice Ao52 t562.length co52)) (fun _ hk => hk.2) (.slice Ao53 t565.length co53)) (fun _ hk => hk.2) (.int .i64 t568)) (fun _ hk => hk.2) (.int .i64 t569)) (fun _ h_ => h_.1)))); (case side2 => exact (Kd.R_reads' HO561.out).2.1); (case side3 => refine (Kd.R_reads' (e := 2) (base := w.heap.size) (ok := fun k_ => ((((some k_ ≠ (.slice Ao53 t565.length co53 : Value).ownBlock ∧ some k_ ≠ (.slice Ao10 t530.length co10 : Value).ownBlock) ∧ some k_ ≠ (.slice Ao11 t533.length co11 : Value).ownBlock) ∧ some k_ ≠ (.slice Ao17 t543.length co17 : Value).ownBlock) ∧ some k_ ≠ (.slice Ao18 t546.length co18 : Value).ownBlock)) (n := t562.length) (c := co52) ?_).2.2; exact (by (with_reducible repeat (first | apply Kd.R_alloc | apply Kd.R_drewN | apply Kd.R_drew)); exact (Kd.R_mono (Kd.R_far (p := ⟨gb571, 4, none⟩) (Kd.R_far (p := ⟨gb571, 3, none⟩) (Kd.R_far (p := ⟨gb571, 2, none⟩) (Kd.R_far (p := ⟨gb571, 1, none⟩) (Kd.R_far (p := ⟨gb571, 0, none⟩) (Kd.R_types HO564.out BK571.out (by decide)) (fun _ hk => hk.2) (.slice Ao48 t559.length co48)) (fun _ hk => hk.2) (.slice Ao52 t562.length co52)) (fun _ hk => hk.2) (.slice Ao53 t565.length co53)) (fun _ hk => hk.2) (.int .i64 t568)) (fun _ hk => hk.2) (.int .i64 t569)) (fun _ h_ => h_.1)))); (case side4 => exact (Kd.R_reads' HO564.out).2.1); (case side5 => refine (Kd.R_reads' (e := 2) (base := w.heap.size) (ok := fun k_ => ((((some k_ ≠ (.slice Ao52 t562.length co52 : Value).ownBlock ∧ some k_ ≠ (.slice Ao10 t530.length co10 : Value).ownBlock) ∧ some k_ ≠ (.slice Ao11 t533.length co11 : Value).ownBlock) ∧ some k_ ≠ (.slice Ao17 t543.length co17 : Value).ownBlock) ∧ some k_ ≠ (.slice Ao18 t546.length co18 : Value).ownBlock)) (n := t565.length) (c := co53) ?_).2.2; exact (by (with_reducible repeat (first | apply Kd.R_alloc | apply Kd.R_drewN | apply Kd.R_drew)); exact (Kd.R_mono (Kd.R_far (p := ⟨gb571, 4, none⟩) (Kd.R_far (p := ⟨gb571, 3, none⟩) (Kd.R_far (p := ⟨gb571, 2, none⟩) (Kd.R_far (p := ⟨gb571, 1, none⟩) (Kd.R_far (p := ⟨gb571, 0, none⟩) (Kd.R_types HO567.out BK571.out (by decide)) (fun _ hk => hk.2) (.slice Ao48 t559.length co48)) (fun _ hk => hk.2) (.slice Ao52 t562.length co52)) (fun _ hk => hk.2) (.slice Ao53 t565.length co53)) (fun _ hk => hk.2) (.int .i64 t568)) (fun _ hk => hk.2) (.int .i64 t569)) (fun _ h_ => h_.1)))); (case side6 => exact (Kd.R_reads' HO567.out).2.1); (case side7 => refine (Kd.R_reads' (e := 77) (base := w.heap.size) (ok := fun k_ => (some k_ ≠ (.slice Ao14 t540.length co14 : Value).ownBlock ∧ some k_ ≠ (.slice Ao48 t559.length co48 : Value).ownBlock)) (n := t527.length) (c := co8) ?_).2.2; exact (by (with_reducible repeat (first | apply Kd.R_alloc | apply Kd.R_drewN | apply Kd.R_drew)); exact (Kd.R_mono (Kd.R_far (p := ⟨gb571, 4, none⟩) (Kd.R_far (p := ⟨gb571, 3, none⟩) (Kd.R_far (p := ⟨gb571, 2, none⟩) (Kd.R_far (p := ⟨gb571, 1, none⟩) (Kd.R_far (p := ⟨gb571, 0, none⟩) (Kd.R_types HO_540000.out BK571.out (by decide)) (fun _ hk => hk.2) (.slice Ao48 t559.length co48)) (fun _ hk => hk.2) (.slice Ao52 t562.length co52)) (fun _ hk => hk.2) (.slice Ao53 t565.length co53)) (fun _ hk => hk.2) (.int .i64 t568)) (fun _ hk => hk.2) (.int .i64 t569)) (fun _ h_ => h_.1)))); (case side8 => exact (Kd.R_reads' HO_540000.out).2.1); (case side9 => refine (Kd.R_reads' (e := 2) (base := w.heap.size) (ok := fun k_ => (((some k_ ≠ (.slice Ao11 t533.length co11 : Value).ownBlock ∧ (some k_ ≠ (.slice Ao17 t543.length co17 : Value).ownBlock ∧ some k_ ≠ (.slice Ao18 t546.length co18 : Value).ownBlock)) ∧ some k_ ≠ (.slice Ao52 t562.length co52 : Value).ownBlock) ∧ some k_ ≠ (.slice Ao53 t565.length co53 : Value).ownBlock)) (n := t530.length) (c := co10) ?_).2.2; exact (by (with_reducible repeat (first | apply Kd.R_alloc | apply Kd.R_drewN | apply Kd.R_drew)); exact (Kd.R_mono (Kd.R_far (p := ⟨gb571, 4, none⟩) (Kd.R_far (p := ⟨gb571, 3, none⟩) (Kd.R_far (p := ⟨gb571, 2, none⟩) (Kd.R_far (p := ⟨gb571, 1, none⟩) (Kd.R_far (p := ⟨gb571, 0, none⟩) (Kd.R_types HO_540001.out BK571.out (by decide)) (fun _ hk => hk.2) (.slice Ao48 t559.length co48)) (fun _ hk => hk.2) (.slice Ao52 t562.length co52)) (fun _ hk => hk.2) (.slice Ao53 t565.length co53)) (fun _ hk => hk.2) (.int .i64 t568)) (fun _ hk => hk.2) (.int .i64 t569)) (fun _ h_ => h_.1)))); (case side10 => exact (Kd.R_reads' HO_540001.out).2.1); (case side11 => refine (Kd.R_reads' (e := 2) (base := w.heap.size) (ok := fun k_ => (((some k_ ≠ (.slice Ao10 t530.length co10 : Value).ownBlock ∧ (some k_ ≠ (.slice Ao17 t543.length co17 : Value).ownBlock ∧ some k_ ≠ (.slice Ao18 t546.length co18 : Value).ownBlock)) ∧ some k_ ≠ (.slice Ao52 t562.length co52 : Value).ownBlock) ∧ some k_ ≠ (.slice Ao53 t565.length co53 : Value).ownBlock)) (n := t533.length) (c := co11) ?_).2.2; exact (by (with_reducible repeat (first | apply Kd.R_alloc | apply Kd.R_drewN | apply Kd.R_drew)); exact (Kd.R_mono (Kd.R_far (p := ⟨gb571, 4, none⟩) (Kd.R_far (p := ⟨gb571, 3, none⟩) (Kd.R_far (p := ⟨gb571, 2, none⟩) (Kd.R_far (p := ⟨gb571, 1, none⟩) (Kd.R_far (p := ⟨gb571, 0, none⟩) (Kd.R_types HO_540002.out BK571.out (by decide)) (fun _ hk => hk.2) (.slice Ao48 t559.length co48)) (fun _ hk => hk.2) (.slice Ao52 t562.length co52)) (fun _ hk => hk.2) (.slice Ao53 t565.length co53)) (fun _ hk => hk.2) (.int .i64 t568)) (fun _ hk => hk.2) (.int .i64 t569)) (fun _ h_ => h_.1)))); (case side12 => exact (Kd.R_reads' HO_540002.out).2.1); rintro e w67 ⟨rfl, hb⟩; refine ⟨_, rfl, ?_⟩; have n0_ := Aside0.mk (Kd.R_below (by (with_reducible repeat (first | apply Kd.R_alloc | apply Kd.R_drewN | apply Kd.R_drew)); exact (Kd.R_mono (Kd.R_far (p := ⟨gb571, 4, none⟩) (Kd.R_far (p := ⟨gb571, 3, none⟩) (Kd.R_far (p := ⟨gb571, 2, none⟩) (Kd.R_far (p := ⟨gb571, 1, none⟩) (Kd.R_far (p := ⟨gb571, 0, none⟩) (Kd.R_types HO_540000.out BK571.out (by decide)) (fun _ hk => hk.2) (.slice Ao48 t559.length co48)) (fun _ hk => hk.2) (.slice Ao52 t562.length co52)) (fun _ hk => hk.2) (.slice Ao53 t565.length co53)) (fun _ hk => hk.2) (.int .i64 t568)) (fun _ hk => hk.2) (.int .i64 t569)) (fun _ h_ => h_.1))) hb); have n1_ := Aside0.mk (Kd.R_below (by (with_reducible repeat (first | apply Kd.R_alloc | apply Kd.R_drewN | apply Kd.R_drew)); exact (Kd.R_mono (Kd.R_far (p := ⟨gb571, 4, none⟩) (Kd.R_far (p := ⟨gb571, 3, none⟩) (Kd.R_far (p := ⟨gb571, 2, none⟩) (Kd.R_far (p := ⟨gb571, 1, none⟩) (Kd.R_far (p := ⟨gb571, 0, none⟩) (Kd.R_types HO_540001.out BK571.out (by decide)) (fun _ hk => hk.2) (.slice Ao48 t559.length co48)) (fun _ hk => hk.2) (.slice Ao52 t562.length co52)) (fun _ hk => hk.2) (.slice Ao53 t565.length co53)) (fun _ hk => hk.2) (.int .i64 t568)) (fun _ hk => hk.2) (.int .i64 t569)) (fun _ h_ => h_.1))) hb); have n2_ := Aside0.mk (Kd.R_below (by (with_reducible repeat (first | apply Kd.R_alloc | apply Kd.R_drewN | apply Kd.R_drew)); exact (Kd.R_mono (Kd.R_far (p := ⟨gb571, 4, none⟩) (Kd.R_far (p := ⟨gb571, 3, none⟩) (Kd.R_far (p := ⟨gb571, 2, none⟩) (Kd.R_far (p := ⟨gb571, 1, none⟩) (Kd.R_far (p := ⟨gb571, 0, none⟩) (Kd.R_types HO_540002.out BK571.out (by decide)) (fun _ hk => hk.2) (.slice Ao48 t559.length co48)) (fun _ hk => hk.2) (.slice Ao52 t562.length co52)) (fun _ hk => hk.2) (.slice Ao53 t565.length co53)) (fun _ hk => hk.2) (.int .i64 t568)) (fun _ hk => hk.2) (.int .i64 t569)) (fun _ h_ => h_.1))) hb); have n3_ := Aside0.mk (Kd.R_below (by (with_reducible repeat (first | apply Kd.R_alloc | apply Kd.R_drewN | apply Kd.R_drew)); exact (Kd.R_mono (Kd.R_far (p := ⟨gb571, 4, none⟩) (Kd.R_far (p := ⟨gb571, 3, none⟩) (Kd.R_far (p := ⟨gb571, 2, none⟩) (Kd.R_far (p := ⟨gb571, 1, none⟩) (Kd.R_far (p := ⟨gb571, 0, none⟩) (Kd.R_types HO_553000.out BK571.out (by decide)) (fun _ hk => hk.2) (.slice Ao48 t559.length co48)) (fun _ hk => hk.2) (.slice Ao52 t562.length co52)) (fun _ hk => hk.2) (.slice Ao53 t565.length co53)) (fun _ hk => hk.2) (.int .i64 t568)) (fun _ hk => hk.2) (.int .i64 t569)) (fun _ h_ => h_.1))) hb); have n4_ := Aside0.mk (Kd.R_below (by (with_reducible repeat (first | apply Kd.R_alloc | apply Kd.R_drewN | apply Kd.R_drew)); exact (Kd.R_mono (Kd.R_far (p := ⟨gb571, 4, none⟩) (Kd.R_far (p := ⟨gb571, 3, none⟩) (Kd.R_far (p := ⟨gb571, 2, none⟩) (Kd.R_far (p := ⟨gb571, 1, none⟩) (Kd.R_far (p := ⟨gb571, 0, none⟩) (Kd.R_types HO_553001.out BK571.out (by decide)) (fun _ hk => hk.2) (.slice Ao48 t559.length co48)) (fun _ hk => hk.2) (.slice Ao52 t562.length co52)) (fun _ hk => hk.2) (.slice Ao53 t565.length co53)) (fun _ hk => hk.2) (.int .i64 t568)) (fun _ hk => hk.2) (.int .i64 t569)) (fun _ h_ => h_.1))) hb); have n5_ := Aside0.mk (Kd.R_below (by (with_reducible repeat (first | apply Kd.R_alloc | apply Kd.R_drewN | apply Kd.R_drew)); exact (Kd.R_mono (Kd.R_far (p := ⟨gb571, 4, none⟩) (Kd.R_far (p := ⟨gb571, 3, none⟩) (Kd.R_far (p := ⟨gb571, 2, none⟩) (Kd.R_far (p := ⟨gb571, 1, none⟩) (Kd.R_far (p := ⟨gb571, 0, none⟩) (Kd.R_types HO_553002.out BK571.out (by decide)) (fun _ hk => hk.2) (.slice Ao48 t559.length co48)) (fun _ hk => hk.2) (.slice Ao52 t562.length co52)) (fun _ hk => hk.2) (.slice Ao53 t565.length co53)) (fun _ hk => hk.2) (.int .i64 t568)) (fun _ hk => hk.2) (.int .i64 t569)) (fun _ h_ => h_.1))) hb); have n6_ := Aside0.mk (Kd.R_below (by (with_reducible repeat (first | apply Kd.R_alloc | apply Kd.R_drewN | apply Kd.R_drew)); exact (Kd.R_mono (Kd.R_far (p := ⟨gb571, 4, none⟩) (Kd.R_far (p := ⟨gb571, 3, none⟩) (Kd.R_far (p := ⟨gb571, 2, none⟩) (Kd.R_far (p := ⟨gb571, 1, none⟩) (Kd.R_far (p := ⟨gb571, 0, none⟩) (Kd.R_types HO561.out BK571.out (by decide)) (fun _ hk => hk.2) (.slice Ao48 t559.length co48)) (fun _ hk => hk.2) (.slice Ao52 t562.length co52)) (fun _ hk => hk.2) (.slice Ao53 t565.length co53)) (fun _ hk => hk.2) (.int .i64 t568)) (fun _ hk => hk.2) (.int .i64 t569)) (fun _ h_ => h_.1))) hb); have n7_ := Aside0.mk (Kd.R_below (by (with_reducible repeat (first | apply Kd.R_alloc | apply Kd.R_drewN | apply Kd.R_drew)); exact (Kd.R_mono (Kd.R_far (p := ⟨gb571, 4, none⟩) (Kd.R_far (p := ⟨gb571, 3, none⟩) (Kd.R_far (p := ⟨gb571, 2, none⟩) (Kd.R_far (p := ⟨gb571, 1, none⟩) (Kd.R_far (p := ⟨gb571, 0, none⟩) (Kd.R_types HO564.out BK571.out (by decide)) (fun _ hk => hk.2) (.slice Ao48 t559.length co48)) (fun _ hk => hk.2) (.slice Ao52 t562.length co52)) (fun _ hk => hk.2) (.slice Ao53 t565.length co53)) (fun _ hk => hk.2) (.int .i64 t568)) (fun _ hk => hk.2) (.int .i64 t569)) (fun _ h_ => h_.1))) hb); have n8_ := Aside0.mk (Kd.R_below (by (with_reducible repeat (first | apply Kd.R_alloc | apply Kd.R_drewN | apply Kd.R_drew)); exact (Kd.R_mono (Kd.R_far (p := ⟨gb571, 4, none⟩) (Kd.R_far (p := ⟨gb571, 3, none⟩) (Kd.R_far (p := ⟨gb571, 2, none⟩) (Kd.R_far (p := ⟨gb571, 1, none⟩) (Kd.R_far (p := ⟨gb571, 0, none⟩) (Kd.R_types HO567.out BK571.out (by decide)) (fun _ hk => hk.2) (.slice Ao48 t559.length co48)) (fun _ hk => hk.2) (.slice Ao52 t562.length co52)) (fun _ hk => hk.2) (.slice Ao53 t565.length co53)) (fun _ hk => hk.2) (.int .i64 t568)) (fun _ hk => hk.2) (.int .i64 t569)) (fun _ h_ => h_.1))) hb); have n9_ := Aside0.mk (blk_below (g := gb539) (o := .cells #[.slice Ao8 t527.length co8, .slice Ao10 t530.length co10, .slice Ao11 t533.length co11, .int .i64 t536, .int .i64 t537] 31 (0, 0)) (by (with_reducible repeat (first | refine blk_drewN ?_ _ | refine blk_drew ?_ | refine blk_alloc ?_ _)); refine blk_far ?_ NB539_571.out _; (with_reducible repeat (first | refine blk_drewN ?_ _ | refine blk_drew ?_ | refine blk_alloc ?_ _)); refine blk_far ?_ NB539_571.out _; (with_reducible repeat (first | refine blk_drewN ?_ _ | refine blk_drew ?_ | refine blk_alloc ?_ _)); refine blk_far ?_ NB539_571.out _; (with_reducible repeat (first | refine blk_drewN ?_ _ | refine blk_drew ?_ | refine blk_alloc ?_ _)); refine blk_far ?_ NB539_571.out _; (with_reducible repeat (first | refine blk_drewN ?_ _ | refine blk_drew ?_ | refine blk_alloc ?_ _)); refine blk_far ?_ NB539_571.out _; (with_reducible repeat (first | refine blk_drewN ?_ _ | refine blk_drew ?_ | refine blk_alloc ?_ _)); exact BK539.out) hb); have n10_ := Aside0.mk (blk_below (g := gb552) (o := .cells #[.slice Ao14 t540.length co14, .slice Ao17 t543.length co17, .slice Ao18 t546.length co18, .int .i64 t549, .int .i64 t550] 31 (0, 0)) (by (with_reducible repeat (first | refine blk_drewN ?_ _ | refine blk_drew ?_ | refine blk_alloc ?_ _)); refine blk_far ?_ NB552_571.out _; (with_reducible repeat (first | refine blk_drewN ?_ _ | refine blk_drew ?_ | refine blk_alloc ?_ _)); refine blk_far ?_ NB552_571.out _; (with_reducible repeat (first | refine blk_drewN ?_ _ | refine blk_drew ?_ | refine blk_alloc ?_ _)); refine blk_far ?_ NB552_571.out _; (with_reducible repeat (first | refine blk_drewN ?_ _ | refine blk_drew ?_ | refine blk_alloc ?_ _)); refine blk_far ?_ NB552_571.out _; (with_reducible repeat (first | refine blk_drewN ?_ _ | refine blk_drew ?_ | refine blk_alloc ?_ _)); refine blk_far ?_ NB552_571.out _; (with_reducible repeat (first | refine blk_drewN ?_ _ | refine blk_drew ?_ | refine blk_alloc ?_ _)); exact BK552.out) hb); have n11_ := Aside0.mk (blk_below (g := gb571) (o := .cells #[.slice Ao48 t559.length co48, .slice Ao52 t562.length co52, .slice Ao53 t565.length co53, .int .i64 t568, .int .i64 t569] 31 (0, 0)) (by (with_reducible repeat (first | refine blk_drewN ?_ _ | refine blk_drew ?_ | refine blk_alloc ?_ _)); refine blk_put (cs := #[.slice Ao48 t559.length co48, .slice Ao52 t562.length co52, .slice Ao53 t565.length co53, .int .i64 t568, .int .i64 0]) ?_ 4 _ rfl; (with_reducible repeat (first | refine blk_drewN ?_ _ | refine blk_drew ?_ | refine blk_alloc ?_ _)); refine blk_put (cs := #[.slice Ao48 t559.length co48, .slice Ao52 t562.length co52, .slice Ao53 t565.length co53, .int .i64 0, .int .i64 0]) ?_ 3 _ rfl; (with_reducible repeat (first | refine blk_drewN ?_ _ | refine blk_drew ?_ | refine blk_alloc ?_ _)); refine blk_put (cs := #[.slice Ao48 t559.length co48, .slice Ao52 t562.length co52, .slice none 0 0, .int .i64 0, .int .i64 0]) ?_ 2 _ rfl; (with_reducible repeat (first | refine blk_drewN ?_ _ | refine blk_drew ?_ | refine blk_alloc ?_ _)); refine blk_put (cs := #[.slice Ao48 t559.length co48, .slice none 0 0, .slice none 0 0, .int .i64 0, .int .i64 0]) ?_ 1 _ rfl; (with_reducible repeat (first | refine blk_drewN ?_ _ | refine blk_drew ?_ | refine blk_alloc ?_ _)); refine blk_put (cs := #[.slice none 0 0, .slice none 0 0, .slice none 0 0, .int .i64 0, .int .i64 0]) ?_ 0 _ rfl; (with_reducible repeat (first | refine blk_drewN ?_ _ | refine blk_drew ?_ | refine blk_alloc ?_ _)); exact BK571.out) hb); have n12_ := Aside0.mk (below_step (by repeat (first | (with_reducible first | exact HB.out | apply below_alloc | apply pw_below_drewN | apply below_drew1 | refine below_set ?_ GE539.out | refine below_set ?_ GE552.out | refine below_set ?_ GE571.out) | exact HB.out)) hb); clear HO_540000; clear HO_540001; clear HO_540002; clear HO_553000; clear HO_553001; clear HO_553002; clear HO561; clear HO564; clear HO567; clear BK539; clear BK552; clear BK571; clear HB; have HO_540000 := n0_; have HO_540001 := n1_; have HO_540002 := n2_; have HO_553000 := n3_; have HO_553001 := n4_; have HO_553002 := n5_; have HO561 := n6_; have HO564 := n7_; have HO567 := n8_; have BK539 := n9_; have BK552 := n10_; have BK571 := n11_; have HB := n12_; clear n0_ n1_ n2_ n3_ n4_ n5_ n6_ n7_ n8_ n9_ n10_ n11_ n12_; (try clear hb); (try clear hb2); (try clear hk); (try clear hi)))
         go_meet
         case rel => exact ⟨_, (true), (by first | rfl | (simp; done) | (simp [*]; done) | (simp [tz_, *]; done)), H', ⟨by have := HJ4.out; first | omega | exact Nat.le_refl _⟩, ⟨by (with_reducible repeat (first | apply Kd.R_alloc | apply Kd.R_drewN | apply Kd.R_drew)); exact HO_540000.out⟩, ⟨by (with_reducible repeat (first | apply Kd.R_alloc | apply Kd.R_drewN | apply Kd.R_drew)); exact Kd.R_mono HO_540001.out (fun _ hk => ⟨hk.1.1.1, ⟨hk.1.1.2.1, ⟨hk.1.1.2.2, ⟨hk.1.2, hk.2⟩⟩⟩⟩)⟩, ⟨by (with_reducible repeat (first | apply Kd.R_alloc | apply Kd.R_drewN | apply Kd.R_drew)); exact Kd.R_mono HO_540002.out (fun _ hk => ⟨hk.1.1.1, ⟨hk.1.1.2.1, ⟨hk.1.1.2.2, ⟨hk.1.2, hk.2⟩⟩⟩⟩)⟩, ⟨by (with_reducible repeat (first | apply Kd.R_alloc | apply Kd.R_drewN | apply Kd.R_drew)); exact HO_553000.out⟩, ⟨by (with_reducible repeat (first | apply Kd.R_alloc | apply Kd.R_drewN | apply Kd.R_drew)); exact Kd.R_mono HO_553001.out (fun _ hk => ⟨hk.1.1.1, ⟨hk.1.1.2.1, ⟨hk.1.1.2.2, ⟨hk.1.2, hk.2⟩⟩⟩⟩)⟩, ⟨by (with_reducible repeat (first | apply Kd.R_alloc | apply Kd.R_drewN | apply Kd.R_drew)); exact Kd.R_mono HO_553002.out (fun _ hk => ⟨hk.1.1.1, ⟨hk.1.1.2.1, ⟨hk.1.1.2.2, ⟨hk.1.2, hk.2⟩⟩⟩⟩)⟩, ⟨by (with_reducible repeat (first | apply Kd.R_alloc | apply Kd.R_drewN | apply Kd.R_drew)); exact Kd.R_mono HO561.out (fun _ hk => ⟨hk.1.2, hk.2⟩)⟩, ⟨by (with_reducible repeat (first | apply Kd.R_alloc | apply Kd.R_drewN | apply Kd.R_drew)); exact Kd.R_mono HO564.out (fun _ hk => ⟨hk.1.1.1.2, ⟨hk.1.1.2, ⟨hk.1.2, ⟨hk.2, hk.1.1.1.1⟩⟩⟩⟩)⟩, ⟨by (with_reducible repeat (first | apply Kd.R_alloc | apply Kd.R_drewN | apply Kd.R_drew)); exact Kd.R_mono HO567.out (fun _ hk => ⟨hk.1.1.1.2, ⟨hk.1.1.2, ⟨hk.1.2, ⟨hk.2, hk.1.1.1.1⟩⟩⟩⟩)⟩, ⟨by (with_reducible repeat (first | refine blk_drewN ?_ _ | refine blk_drew ?_ | refine blk_alloc ?_ _)); exact BK539.out⟩, ⟨by (with_reducible repeat (first | refine blk_drewN ?_ _ | refine blk_drew ?_ | refine blk_alloc ?_ _)); exact BK552.out⟩, ⟨by (with_reducible repeat (first | refine blk_drewN ?_ _ | refine blk_drew ?_ | refine blk_alloc ?_ _)); exact BK571.out⟩, ⟨by repeat (first | (with_reducible first | exact HB.out | apply below_alloc | apply pw_below_drewN | apply below_drew1 | refine below_set ?_ GE539.out | refine below_set ?_ GE552.out | refine below_set ?_ GE571.out) | exact HB.out)⟩⟩
       case rest =>
        clear HC40
        try clear c1
        try clear c2
        try clear c2b0
        try clear c2b1
        try clear p2
        try clear c3
        try clear c4
        try clear c5
        try clear c6
        try clear c11
        try clear c15
        try clear c17
        try clear c18
        try clear c19
        try clear c20
        try clear c21
        try clear c25
        try clear c29
        try clear c32
        try clear c32b0
        try clear c33
        try clear c38
        try clear c38b0
        try clear c38b1
        try clear c41
        try clear c49
        try clear c50
        try clear c55
        try clear c56
        try clear c57
        try clear c59
        try clear c62
        try clear c63
        try clear c65
        try clear hcz16_0
        try clear hcz16_1
        try clear hcz16_2
        try clear hcz16_3
        try clear hcz16_4
        try clear hcz22_0
        try clear hcz22_1
        try clear hcz22_2
        try clear hcz22_3
        try clear hcz22_4
        try clear hcz23_0
        try clear hcz23_1
        try clear hcz23_2
        try clear hcz23_3
        try clear hcz23_4
        try clear hcz26_0
        try clear hcz26_1
        try clear hcz26_2
        try clear hcz26_3
        try clear hcz26_4
        try clear hcz27_0
        try clear hcz27_1
        try clear hcz27_2
        try clear hcz27_3
        try clear hcz27_4
        try clear hcz34_0
        try clear hcz34_1
        try clear hcz34_2
        try clear hcz34_3
        try clear hcz34_4
        try clear hcz36_0
        try clear hcz36_1
        try clear hcz36_2
        try clear hcz36_3
        try clear hcz36_4
        try clear hcz42_0
        try clear hcz42_1
        try clear hcz42_2
        try clear hcz42_3
        try clear hcz42_4
        try clear hcz44_0
        try clear hcz44_1
        try clear hcz44_2
        try clear hcz44_3
        try clear hcz44_4
        try clear hcz51_0
        try clear hcz51_1
        try clear hcz51_2
        try clear hcz51_3
        try clear hcz51_4
        try clear hcz58_0
        try clear hcz58_1
        try clear hcz58_2
        try clear hcz58_3
        try clear hcz58_4
        try clear hcz60_0
        try clear hcz60_1
        try clear hcz60_2
        try clear hcz60_3
        try clear hcz60_4
        try clear hcz64_0
        try clear hcz64_1
        try clear hcz64_2
        try clear hcz64_3
        try clear hcz64_4
        try clear hcz66_0
        try clear hcz66_1
        try clear hcz66_2
        try clear hcz66_3
        try clear hcz66_4
        try clear hcz9_0
        try clear hcz9_1
        try clear hcz9_2
        try clear hcz9_3
        try clear hcz9_4
        try clear hfz16_0
        try clear hfz16_1
        try clear hfz16_2
        try clear hfz16_3
        try clear hfz16_4
        try clear hfz22_0
        try clear hfz22_1
        try clear hfz22_2
        try clear hfz22_3
        try clear hfz22_4
        try clear hfz23_0
        try clear hfz23_1
        try clear hfz23_2
        try clear hfz23_3
        try clear hfz23_4
        try clear hfz26_0
        try clear hfz26_1
        try clear hfz26_2
        try clear hfz26_3
        try clear hfz26_4
        try clear hfz27_0
        try clear hfz27_1
        try clear hfz27_2
        try clear hfz27_3
        try clear hfz27_4
        try clear hfz34_0
        try clear hfz34_1
        try clear hfz34_2
        try clear hfz34_3
        try clear hfz34_4
        try clear hfz36_0
        try clear hfz36_1
        try clear hfz36_2
        try clear hfz36_3
        try clear hfz36_4
        try clear hfz42_0
        try clear hfz42_1
        try clear hfz42_2
        try clear hfz42_3
        try clear hfz42_4
        try clear hfz44_0
        try clear hfz44_1
        try clear hfz44_2
        try clear hfz44_3
        try clear hfz44_4
        try clear hfz51_0
        try clear hfz51_1
        try clear hfz51_2
        try clear hfz51_3
        try clear hfz51_4
        try clear hfz58_0
        try clear hfz58_1
        try clear hfz58_2
        try clear hfz58_3
        try clear hfz58_4
        try clear hfz60_0
        try clear hfz60_1
        try clear hfz60_2
        try clear hfz60_3
        try clear hfz60_4
        try clear hfz64_0
        try clear hfz64_1
        try clear hfz64_2
        try clear hfz64_3
        try clear hfz64_4
        try clear hfz66_0
        try clear hfz66_1
        try clear hfz66_2
        try clear hfz66_3
        try clear hfz66_4
        try clear hfz9_0
        try clear hfz9_1
        try clear hfz9_2
        try clear hfz9_3
        try clear hfz9_4
        try clear p2
        obtain ⟨kq, x57_39, rfl, HA, HJ39, HO_540000, HO_540001, HO_540002, HO_553000, HO_553001, HO_553002, HO_572000, HO_572001, HO_572002, BK539, BK552, BK571, HB⟩ := hcut
        have hl553000_39 := (Kd.R_reads' HO_553000.out).1
        rw [hl553000_39] at HO_553000
        (try simp only [hl553000_39])
        (try simp only [hl553000_39] at BK539)
        (try simp only [hl553000_39] at BK552)
        (try simp only [hl553000_39] at BK571)
        (try simp only [hl553000_39] at HO_540000)
        (try simp only [hl553000_39] at HO_540001)
        (try simp only [hl553000_39] at HO_540002)
        (try simp only [hl553000_39] at HO_553001)
        (try simp only [hl553000_39] at HO_553002)
        (try simp only [hl553000_39] at HO_572000)
        (try simp only [hl553000_39] at HO_572001)
        (try simp only [hl553000_39] at HO_572002)
        have hl553001_39 := (Kd.R_reads' HO_553001.out).1
        rw [hl553001_39] at HO_553001
        (try simp only [hl553001_39])
        (try simp only [hl553001_39] at BK539)
        (try simp only [hl553001_39] at BK552)
        (try simp only [hl553001_39] at BK571)
        (try simp only [hl553001_39] at HO_540000)
        (try simp only [hl553001_39] at HO_540001)
        (try simp only [hl553001_39] at HO_540002)
        (try simp only [hl553001_39] at HO_553000)
        (try simp only [hl553001_39] at HO_553002)
        (try simp only [hl553001_39] at HO_572000)
        (try simp only [hl553001_39] at HO_572001)
        (try simp only [hl553001_39] at HO_572002)
        have hl553002_39 := (Kd.R_reads' HO_553002.out).1
        rw [hl553002_39] at HO_553002
        (try simp only [hl553002_39])
        (try simp only [hl553002_39] at BK539)
        (try simp only [hl553002_39] at BK552)
        (try simp only [hl553002_39] at BK571)
        (try simp only [hl553002_39] at HO_540000)
        (try simp only [hl553002_39] at HO_540001)
        (try simp only [hl553002_39] at HO_540002)
        (try simp only [hl553002_39] at HO_553000)
        (try simp only [hl553002_39] at HO_553001)
        (try simp only [hl553002_39] at HO_572000)
        (try simp only [hl553002_39] at HO_572001)
        (try simp only [hl553002_39] at HO_572002)
        cases kq with
        | zero => exact absurd HA.out (by simp [laws_FnExactReadHead.j1])
        | succ kj39 =>
         have H := HA.out
         clear HA
         simp only [laws_FnExactReadHead.j1] at H
         by_cases c68 : x57_39 = true
         ·subst c68
          have H1 : (some false) = some r := by rw [if_pos rfl] at H; exact H
          clear H
          have H := H1
          clear H1
          exact absurd (Option.some.inj H) (by rw [hr_]; decide)
         ·replace c68 := Bool.eq_false_iff.mpr c68
          subst c68
          have H1 : ((laws_heldHead.f kj39 t555 t556 t557 t549 t550 1).bind fun t573 => (if t573 < 0 then (some false) else (if t573 = t554 then (some true) else (some false)))) = some r := by rw [if_neg (show ¬ (false = true) by decide)] at H; exact H
          clear H
          have H := H1
          clear H1
          replace H := Option.bind_eq_some_iff.mp H
          obtain ⟨t573, A690, H⟩ := H
          replace H : (if t573 < 0 then (some false) else (if t573 = t554 then (some true) else (some false))) = some r := H
          have A69 := Aside0.mk A690
          clear A690
          by_cases c70 : t573 < 0
          ·rw [if_pos c70] at H
           have c70b0 : decide (t573 < 0) = true := decide_eq_true c70
           clear c70
           exact absurd (Option.some.inj H) (by rw [hr_]; decide)
          ·rw [if_neg c70] at H
           have c70b0 : decide (t573 < 0) = false := decide_eq_false c70
           clear c70
           by_cases c75 : t573 = t554
           ·rw [if_pos c75] at H
            have c75b0 : (t573 == t554) = true := beq_iff_eq.mpr c75
            have c75b1 : (t573 != t554) = false := bne_eq_false_iff_eq.mpr c75
            clear c75
            obtain rfl := Option.some.inj H
            have hnb76 := NB552_539.out
            have hnc76 := NB539_552.out
            have hnb77 := NB552_571.out
            have hnc77 := NB571_552.out
            have hcz78_0 : wc.cell? ⟨gb552, 0, none⟩ = some (.slice Ao14 t555.length co14) := (blk_cell BK552.out 0).trans rfl
            have hcz78_1 : wc.cell? ⟨gb552, 1, none⟩ = some (.slice Ao17 t556.length co17) := (blk_cell BK552.out 1).trans rfl
            have hcz78_2 : wc.cell? ⟨gb552, 2, none⟩ = some (.slice Ao18 t557.length co18) := (blk_cell BK552.out 2).trans rfl
            have hcz78_3 : wc.cell? ⟨gb552, 3, none⟩ = some (.int .i64 t549) := (blk_cell BK552.out 3).trans rfl
            have hcz78_4 : wc.cell? ⟨gb552, 4, none⟩ = some (.int .i64 t550) := (blk_cell BK552.out 4).trans rfl
            have hfz78_0 := blk_frozen BK552.out 0
            have hfz78_1 := blk_frozen BK552.out 1
            have hfz78_2 := blk_frozen BK552.out 2
            have hfz78_3 := blk_frozen BK552.out 3
            have hfz78_4 := blk_frozen BK552.out 4
            go_wp2_with (first | ((with_reducible refine gate_callee (f := 20) rfl ?_); refine goesL_ (some 60) rfl rfl Tryd.func20 (by kernel_rfl) rfl #[.agg #[.slice Ao14 t555.length co14, .slice Ao17 t556.length co17, .slice Ao18 t557.length co18, .int .i64 t549, .int .i64 t550], .int .i64 1] rfl (by (try simp only [List.map_toArray, List.map_cons, List.map_nil]); first | done | rfl) ?_; (with_reducible refine (laws_heldHead.calls kj39 _ _ t555 _ _ t556 _ _ t557 t549 t550 1 t573 _ ?side1 ?side2 ?side3 ?side4 ?side5 ?side6 A69.out).mono ?_); (case side1 => repeat (first | exact (Kd.R_reads' HO_553000.out).2.2 | (with_reducible first | refine Kd.C_alloc ?_ _ | refine Kd.C_drewN ?_ _ | refine Kd.C_drew ?_))); (case side2 => exact (Kd.R_reads' HO_553000.out).2.1); (case side3 => repeat (first | exact (Kd.R_reads' HO_553001.out).2.2 | (with_reducible first | refine Kd.C_alloc ?_ _ | refine Kd.C_drewN ?_ _ | refine Kd.C_drew ?_))); (case side4 => exact (Kd.R_reads' HO_553001.out).2.1); (case side5 => repeat (first | exact (Kd.R_reads' HO_553002.out).2.2 | (with_reducible first | refine Kd.C_alloc ?_ _ | refine Kd.C_drewN ?_ _ | refine Kd.C_drew ?_))); (case side6 => exact (Kd.R_reads' HO_553002.out).2.1); rintro e w79 ⟨rfl, hb⟩; refine ⟨_, rfl, ?_⟩; have n0_ := Aside0.mk (Kd.R_below (by (with_reducible repeat (first | apply Kd.R_alloc | apply Kd.R_drewN | apply Kd.R_drew)); exact HO_540000.out) hb); have n1_ := Aside0.mk (Kd.R_below (by (with_reducible repeat (first | apply Kd.R_alloc | apply Kd.R_drewN | apply Kd.R_drew)); exact HO_540001.out) hb); have n2_ := Aside0.mk (Kd.R_below (by (with_reducible repeat (first | apply Kd.R_alloc | apply Kd.R_drewN | apply Kd.R_drew)); exact HO_540002.out) hb); have n3_ := Aside0.mk (Kd.R_below (by (with_reducible repeat (first | apply Kd.R_alloc | apply Kd.R_drewN | apply Kd.R_drew)); exact HO_553000.out) hb); have n4_ := Aside0.mk (Kd.R_below (by (with_reducible repeat (first | apply Kd.R_alloc | apply Kd.R_drewN | apply Kd.R_drew)); exact HO_553001.out) hb); have n5_ := Aside0.mk (Kd.R_below (by (with_reducible repeat (first | apply Kd.R_alloc | apply Kd.R_drewN | apply Kd.R_drew)); exact HO_553002.out) hb); have n6_ := Aside0.mk (Kd.R_below (by (with_reducible repeat (first | apply Kd.R_alloc | apply Kd.R_drewN | apply Kd.R_drew)); exact HO_572000.out) hb); have n7_ := Aside0.mk (Kd.R_below (by (with_reducible repeat (first | apply Kd.R_alloc | apply Kd.R_drewN | apply Kd.R_drew)); exact HO_572001.out) hb); have n8_ := Aside0.mk (Kd.R_below (by (with_reducible repeat (first | apply Kd.R_alloc | apply Kd.R_drewN | apply Kd.R_drew)); exact HO_572002.out) hb); have n9_ := Aside0.mk (blk_below (g := gb539) (o := .cells #[.slice Ao8 t527.length co8, .slice Ao10 t530.length co10, .slice Ao11 t533.length co11, .int .i64 t536, .int .i64 t537] 31 (0, 0)) (by (with_reducible repeat (first | refine blk_drewN ?_ _ | refine blk_drew ?_ | refine blk_alloc ?_ _)); exact BK539.out) hb); have n10_ := Aside0.mk (blk_below (g := gb552) (o := .cells #[.slice Ao14 t555.length co14, .slice Ao17 t556.length co17, .slice Ao18 t557.length co18, .int .i64 t549, .int .i64 t550] 31 (0, 0)) (by (with_reducible repeat (first | refine blk_drewN ?_ _ | refine blk_drew ?_ | refine blk_alloc ?_ _)); exact BK552.out) hb); have n11_ := Aside0.mk (blk_below (g := gb571) (o := .cells #[.slice Ao48 t559.length co48, .slice Ao52 t562.length co52, .slice Ao53 t565.length co53, .int .i64 t568, .int .i64 t569] 31 (0, 0)) (by (with_reducible repeat (first | refine blk_drewN ?_ _ | refine blk_drew ?_ | refine blk_alloc ?_ _)); exact BK571.out) hb); have n12_ := Aside0.mk (below_step (by repeat (first | (with_reducible first | exact HB.out | apply below_alloc | apply pw_below_drewN | apply below_drew1 | refine below_set ?_ GE539.out | refine below_set ?_ GE552.out | refine below_set ?_ GE571.out) | exact HB.out)) hb); clear HO_540000; clear HO_540001; clear HO_540002; clear HO_553000; clear HO_553001; clear HO_553002; clear HO_572000; clear HO_572001; clear HO_572002; clear BK539; clear BK552; clear BK571; clear HB; have HO_540000 := n0_; have HO_540001 := n1_; have HO_540002 := n2_; have HO_553000 := n3_; have HO_553001 := n4_; have HO_553002 := n5_; have HO_572000 := n6_; have HO_572001 := n7_; have HO_572002 := n8_; have BK539 := n9_; have BK552 := n10_; have BK571 := n11_; have HB := n12_; clear n0_ n1_ n2_ n3_ n4_ n5_ n6_ n7_ n8_ n9_ n10_ n11_ n12_; (try clear hb); (try clear hb2); (try clear hk); (try clear hi)))
            go_ret
            exact ⟨by first | rfl | (simp [errW_none, errW_some] <;> rfl) | (simp [*, errW_none, errW_some] <;> rfl) | (simp [tz_, *]; done), by repeat (first | (with_reducible first | exact HB.out | apply below_alloc | apply pw_below_drewN | apply below_drew1 | refine below_set ?_ GE539.out | refine below_set ?_ GE552.out | refine below_set ?_ GE571.out) | exact HB.out)⟩
           ·rw [if_neg c75] at H
            have c75b0 : (t573 == t554) = false := beq_eq_false_iff_ne.mpr c75
            have c75b1 : (t573 != t554) = true := bne_iff_ne.mpr c75
            exact absurd (Option.some.inj H) (by rw [hr_]; decide)
      ·rw [if_neg c38] at H
       have c38b0 : (t558 == t554) = false := beq_eq_false_iff_ne.mpr c38
       have c38b1 : (t558 != t554) = true := bne_iff_ne.mpr c38
       exact absurd (Option.some.inj H) (by rw [hr_]; decide)
/-- THE ONE PURE STATEMENT of laws_FnExactReadHead: yours. -/
def laws_FnExactReadHead.Pure : Prop := ∀ (a0 : ByteArray), a0.size ≤ 140737488351232 → ∃ k, laws_FnExactReadHead.f k a0 = some true
theorem laws_FnExactReadHead.walk (P : laws_FnExactReadHead.Pure) (a0 : ByteArray) (w : World) (w0 : a0.size ≤ 140737488351232) (hT_ : Tab2 w) :
  Calls Tryd.prog 5 #[.string a0] w fun e w' => e = .returned (.bool true) ∧ Below w.heap.size w w' := by
 obtain ⟨k, h⟩ := P a0 w0
 refine (laws_FnExactReadHead.calls k a0 true w hT_ h rfl).mono ?_
 rintro e w' ⟨rfl, hd⟩
 exact ⟨rfl, hd⟩

/- Plain facts on numbers and lists that every loop's lemma uses. -/
open Go.RowKit Go.Proofs.YtfcadpkhmkjibaaDoor.P Go.Proofs.YtfcadpkhmkjibaaDoorW.PrintWords Go.Proofs.YtfcadpkhmkjibaaDoorW.PrintLast Go.Proofs.YtfcadpkhmkjibaaDoorW.PrintMore
set_option linter.unusedVariables false
set_option linter.unusedSimpArgs false
theorem w64 (x : Int) (h1 : -9223372036854775808 ≤ x) (h2 : x ≤ 9223372036854775807) : wrap64 x = x := by unfold wrap64; omega
theorem w64s (i : Nat) (h : i < 9223372036854775807) : wrap64 ((i : Int) + 1) = ((i + 1 : Nat) : Int) := by unfold wrap64; omega
theorem rd_at (l : List Int) (i : Nat) (h : i < l.length) : rd l (i : Int) = l[i] := by
  unfold rd
  rw [Int.toNat_natCast, List.getD_eq_getElem?_getD, List.getElem?_eq_getElem h]
  rfl
theorem drop_at (l : List Int) (i : Nat) (h : i < l.length) : l.drop i = rd l (i : Int) :: l.drop (i + 1) := by
  rw [rd_at l i h, List.drop_eq_getElem_cons h]
theorem fill_step {α : Type} (l acc : List α) (i : Nat) (x : α) (hi : i < l.length) (hl : acc.length = l.length) (h : acc.take i = l.take i) (hx : l[i] = x) : (acc.set i x).take (i + 1) = l.take (i + 1) := by
  subst hx
  have hi2 : i < (acc.set i l[i]).length := by rw [List.length_set]; omega
  rw [List.take_succ_eq_append_getElem hi2, List.take_succ_eq_append_getElem hi, List.getElem_set_self, List.take_set_of_le (Nat.le_refl i), h]
def iota (m : Int) : Nat → List Int
  | 0 => []
  | n + 1 => m :: iota (m + 1) n
theorem iota_length (m : Int) (n : Nat) : (iota m n).length = n := by
  induction n generalizing m with
  | zero => rfl
  | succ n ih => simp [iota, ih]
theorem iota_get (m : Int) (n i : Nat) (h : i < (iota m n).length) : (iota m n)[i] = m + i := by
  induction n generalizing m i with
  | zero => rw [iota_length] at h; omega
  | succ n ih =>
    cases i with
    | zero => simp [iota]
    | succ i =>
      have h2 : i < (iota (m + 1) n).length := by rw [iota_length] at h ⊢; omega
      simp only [iota, List.getElem_cons_succ]
      rw [ih (m + 1) i h2]
      omega
theorem bind_some_ {α β : Type} (a : α) (f : α → Option β) : (some a).bind f = f a := rfl
theorem ite_tt (b r : Bool) : (if b = true then some r else some false) = some (b && r) := by cases b <;> rfl
theorem ite_ff (p : Prop) [Decidable p] (r : Bool) : (if p then some false else some r) = some (!decide p && r) := by by_cases h : p <;> simp [h]
theorem ite_pp (p : Prop) [Decidable p] (r : Bool) : (if p then some r else some false) = some (decide p && r) := by by_cases h : p <;> simp [h]
theorem not_ge_dec (a b : Int) : (!decide (a ≥ b)) = decide (a < b) := by by_cases h : a < b <;> simp [h] <;> omega

/- The reference's decimal numeral is the library's. -/
def tx (l : List UInt8) : ByteArray := ⟨l.toArray⟩
theorem tx_app (a b : List UInt8) : tx a ++ tx b = tx (a ++ b) := by
  apply ByteArray.ext
  rw [ByteArray.data_append]
  simp [tx]
theorem tx_size (l : List UInt8) : (tx l).size = l.length := by
  show l.toArray.size = l.length
  simp
theorem tx_of (b : ByteArray) : tx b.data.toList = b := by
  apply ByteArray.ext
  simp [tx]
theorem tx_data (l : List UInt8) : (tx l).data.toList = l := by simp [tx]
def dd (n : Int) : ByteArray := tx (Lib.itoa n)
theorem dig_is (m : Nat) (hm : m < 18446744073709551616) : strOfNums [(wrap64 (48 - (Int.tmod (-(m : Int)) 10))) % 256] = tx [UInt8.ofNat (48 + m % 10)] := by
  have e : Int.tmod (-(m : Int)) 10 = -((m % 10 : Nat) : Int) := by
    rw [Int.neg_tmod]
    rfl
  have hlt := Nat.mod_lt m (show 0 < 10 by decide)
  rw [e, w64 _ (by omega) (by omega)]
  unfold strOfNums tx
  simp only [List.map_cons, List.map_nil]
  rw [show ((48 - -((m % 10 : Nat) : Int)) % 256).toNat = 48 + m % 10 by omega]
theorem tdiv_is (m : Nat) (hm : m ≤ 9223372036854775808) : wrap64 (Int.tdiv (-(m : Int)) 10) = -((m / 10 : Nat) : Int) := by
  have e : Int.tdiv (-(m : Int)) 10 = -((m / 10 : Nat) : Int) := by
    rw [Int.neg_tdiv]
    rfl
  rw [e, w64 _ (by omega) (by omega)]
theorem decDigits_low {m : Nat} (h : m < 10) : Lib.decDigits m = [UInt8.ofNat (48 + m % 10)] := by
  rw [Lib.decDigits_one h, Nat.mod_eq_of_lt h]
theorem decDigits_more {m : Nat} (h : ¬ m < 10) : Lib.decDigits m = Lib.decDigits (m / 10) ++ [UInt8.ofNat (48 + m % 10)] := by
  rw [Lib.decDigits, dif_neg h]
theorem dec_l0 (x : ByteArray) (hx : x.size ≤ 1000) : ∀ (d k m : Nat) (acc : List UInt8), m < 10 ^ d → m ≤ 9223372036854775808 → d < k → acc.length + d ≤ 1000 → spec_l01Dec.l0 k x (-(m : Int)) (tx acc) = some (x ++ tx ((if m = 0 then [] else Lib.decDigits m) ++ acc)) := by
  intro d
  induction d with
  | zero =>
    intro k m acc hm _ hk ha
    obtain ⟨k, rfl⟩ : ∃ q, k = q + 1 := ⟨k - 1, by omega⟩
    have : m = 0 := by simp at hm; omega
    subst this
    simp only [spec_l01Dec.l0]
    rw [if_neg (by omega), tx_size, if_pos (by omega)]
    simp
  | succ d ih =>
    intro k m acc hm hb hk ha
    obtain ⟨k, rfl⟩ : ∃ q, k = q + 1 := ⟨k - 1, by omega⟩
    simp only [spec_l01Dec.l0]
    by_cases h0 : m = 0
    · subst h0
      rw [if_neg (by omega), tx_size, if_pos (by omega)]
      simp
    · rw [if_pos (by omega), bind_some_, dig_is m (by omega), tx_size, tx_size, if_pos (by simp only [List.length_cons, List.length_nil]; omega), tdiv_is m hb, tx_app, ih k (m / 10) _ (by rw [Nat.pow_succ] at hm; omega) (by omega) (by omega) (by simp only [List.length_append, List.length_cons, List.length_nil]; omega), if_neg h0]
      by_cases h1 : m < 10
      · rw [if_pos (by omega), decDigits_low h1, List.nil_append]
      · rw [if_neg (by omega), decDigits_more h1, List.append_assoc]
theorem dec_j0 (x : ByteArray) (hx : x.size ≤ 1000) (k m : Nat) (hm : m ≤ 9223372036854775808) (hk : 30 < k) : spec_l01Dec.j0 k x (-(m : Int)) = some (x ++ tx (Lib.decDigits m)) := by
  obtain ⟨k, rfl⟩ : ∃ q, k = q + 1 := ⟨k - 1, by omega⟩
  simp only [spec_l01Dec.j0]
  rw [dig_is m (by omega), tdiv_is m hm, dec_l0 x hx 20 k (m / 10) _ (by omega) (by omega) (by omega) (by simp)]
  by_cases h1 : m < 10
  · rw [if_pos (by omega), decDigits_low h1, List.nil_append]
  · rw [if_neg (by omega), decDigits_more h1]
theorem specDec_is (k : Nat) (n : Int) (hn : -9223372036854775808 ≤ n ∧ n ≤ 9223372036854775807) (hk : 30 < k) : spec_l01Dec.f k n = some (dd n) := by
  unfold spec_l01Dec.f dd Lib.itoa
  by_cases h : n < 0
  · obtain ⟨m, e⟩ : ∃ m : Nat, n = -(m : Int) := ⟨n.natAbs, by omega⟩
    subst e
    rw [if_pos h, dec_j0 _ (by decide) k m (by omega) hk, if_pos h, show (-(m : Int)).natAbs = m by omega, show (⟨#[45]⟩ : ByteArray) = tx [45] from rfl, tx_app]
    rfl
  · obtain ⟨m, e⟩ : ∃ m : Nat, n = (m : Int) := ⟨n.toNat, by omega⟩
    subst e
    rw [if_neg h, w64 _ (by omega) (by omega), dec_j0 _ (by decide) k m (by omega) hk, if_neg h, Int.toNat_natCast, show (⟨#[]⟩ : ByteArray) = tx [] from rfl, tx_app, List.nil_append]
theorem lit1 (x : UInt8) : (⟨#[x]⟩ : ByteArray) = tx [x] := rfl
theorem lit0 : (⟨#[]⟩ : ByteArray) = tx [] := rfl

/- A test at each of some numbers that follow one another. -/
def upTo (p : Nat → Bool) : Nat → Nat → Bool
  | 0, _ => true
  | d + 1, i => p i && upTo p d (i + 1)
theorem upTo_iff (p : Nat → Bool) : ∀ (d i : Nat), upTo p d i = true ↔ ∀ j, i ≤ j → j < i + d → p j = true := by
  intro d
  induction d with
  | zero => intro i; simp [upTo]; intro j h1 h2; omega
  | succ d ih =>
    intro i
    simp only [upTo, Bool.and_eq_true, ih]
    constructor
    · intro ⟨h0, h⟩ j h1 h2
      by_cases e : i = j
      · rw [← e]; exact h0
      · exact h j (by omega) (by omega)
    · intro h
      exact ⟨h i (Nat.le_refl _) (by omega), fun j h1 h2 => h j (by omega) (by omega)⟩

/- Numbers in a range that rise. -/
def riseOk (l : List Int) (lo hi : Int) (i : Nat) : Bool := decide (lo ≤ rd l i ∧ rd l i ≤ hi) && (decide (i = 0) || decide (rd l ((i - 1 : Nat) : Int) < rd l i))
def rises (l : List Int) (lo hi : Int) : Bool := upTo (riseOk l lo hi) l.length 0

/- What is asked of a head. -/
def cuOk (cs : List S77) (i : Nat) : Bool := decide (1 ≤ (rd_T77 cs i).f0 ∧ (rd_T77 cs i).f0 ≤ 100) && decide (1 ≤ (rd_T77 cs i).f1 ∧ (rd_T77 cs i).f1 ≤ 1000000)
def hdOk (cs : List S77) (fc st : List Int) (x y : Int) : Bool :=
  decide (1 ≤ (cs.length : Int) ∧ (cs.length : Int) ≤ 5) && (decide ((fc.length : Int) ≤ 60) && (decide ((st.length : Int) ≤ 8) && (rises st 0 (wrap64 ((fc.length : Int) - 1)) && (upTo (cuOk cs) cs.length 0 && (impl_areWithin.all 0 100 fc && (decide (0 ≤ x ∧ x ≤ 10000) && decide (0 ≤ y ∧ y ≤ 10000)))))))


/- Texts joined with a byte between them, as both sides write them. -/
def jn {α : Type} (f : α → List UInt8) (c : UInt8) (l : List α) : List UInt8 := Lib.join (l.map f) [c]
theorem jn_nil {α : Type} (f : α → List UInt8) (c : UInt8) : jn f c [] = [] := rfl
theorem jn_one {α : Type} (f : α → List UInt8) (c : UInt8) (x : α) : jn f c [x] = f x := Lib.join_one _ _
theorem jn_cons {α : Type} (f : α → List UInt8) (c : UInt8) (x : α) (l : List α) : jn f c (x :: l) = f x ++ (l.map (fun y => c :: f y)).flatten := by
  unfold jn
  rw [List.map_cons, Lib.join_cons]
  unfold Lib.joinTail
  rw [List.map_map]
  rfl
theorem jn_snoc {α : Type} (f : α → List UInt8) (c : UInt8) : ∀ (l : List α) (x : α), l ≠ [] → jn f c (l ++ [x]) = (jn f c l ++ [c]) ++ f x
  | [], x, h => absurd rfl h
  | y :: l, x, _ => by
    rw [List.cons_append, jn_cons, jn_cons, List.map_append, List.flatten_append]
    simp
theorem flat_len {α : Type} (g : α → List UInt8) (M : Nat) : ∀ l : List α, (∀ x ∈ l, (g x).length ≤ M) → (l.map g).flatten.length ≤ l.length * M
  | [], _ => by simp
  | x :: l, h => by
    have h1 := h x (by simp)
    have h2 := flat_len g M l (fun y hy => h y (by simp [hy]))
    rw [List.map_cons, List.flatten_cons, List.length_append, List.length_cons, Nat.succ_mul]
    omega
theorem jn_len {α : Type} (f : α → List UInt8) (c : UInt8) (M : Nat) : ∀ l : List α, (∀ x ∈ l, (f x).length ≤ M) → (jn f c l).length ≤ l.length * (M + 1)
  | [], _ => by simp [jn_nil]
  | x :: l, h => by
    have h1 := h x (by simp)
    have h2 := flat_len (fun y => c :: f y) (M + 1) l (fun y hy => by have := h y (by simp [hy]); rw [List.length_cons]; omega)
    rw [jn_cons, List.length_append, List.length_cons, Nat.succ_mul]
    omega
theorem jn_take {α : Type} (f : α → List UInt8) (c : UInt8) (l : List α) (i : Nat) (h : i < l.length) : jn f c (l.take (i + 1)) = if i = 0 then f l[i] else (jn f c (l.take i) ++ [c]) ++ f l[i] := by
  rw [List.take_add_one, List.getElem?_eq_getElem h]
  simp only [Option.toList_some]
  split
  · rename_i e
    subst e
    simp [jn_one]
  · exact jn_snoc f c _ _ (by
      intro e
      have := congrArg List.length e
      rw [List.length_take, List.length_nil] at this
      omega)
def I64s (l : List Int) : Prop := ∀ x ∈ l, -9223372036854775808 ≤ x ∧ x ≤ 9223372036854775807
theorem itoa_len {n : Int} (h : -9223372036854775808 ≤ n ∧ n ≤ 9223372036854775807) : (Lib.itoa n).length ≤ 21 := Lib.itoa_length_le n h.1 h.2
theorem jn_ints (c : UInt8) {l : List Int} (h : I64s l) (i : Nat) : (jn Lib.itoa c (l.take i)).length ≤ l.length * 22 := by
  have h1 := jn_len Lib.itoa c 21 (l.take i) (fun x hx => itoa_len (h x (List.mem_of_mem_take hx)))
  have h2 : (l.take i).length * (21 + 1) ≤ l.length * 22 := Nat.mul_le_mul_right _ (by rw [List.length_take]; omega)
  omega
/- Numbers in decimal with commas between them, as the reference writes them. -/
theorem specComma_l0 (l : List Int) (hl : l.length ≤ 1048576) (hw : I64s l) : ∀ (d k i : Nat), i + d = l.length → d + 31 < k → spec_l06Comma.l0 k l (tx (jn Lib.itoa 44 (l.take i))) i = some (tx (jn Lib.itoa 44 l)) := by
  intro d
  induction d with
  | zero =>
    intro k i hi hk
    obtain ⟨k, rfl⟩ : ∃ m, k = m + 1 := ⟨k - 1, by omega⟩
    simp only [spec_l06Comma.l0]
    rw [if_neg (by omega), List.take_of_length_le (by omega)]
  | succ d ih =>
    intro k i hi hk
    obtain ⟨k, rfl⟩ : ∃ m, k = m + 1 := ⟨k - 1, by omega⟩
    have hlt : i < l.length := by omega
    have hr := hw _ (List.getElem_mem hlt)
    have h1 := jn_ints 44 hw i
    have h2 := itoa_len hr
    have hz := ih k (i + 1) (by omega) (by omega)
    rw [jn_take Lib.itoa 44 l i hlt] at hz
    simp only [spec_l06Comma.l0]
    rw [if_pos (by omega), rd_at l i hlt]
    by_cases h0 : i = 0
    · rw [if_pos h0] at hz
      rw [if_neg (by omega), if_pos (by omega), specDec_is k _ hr (by omega), bind_some_, w64s i (by omega)]
      unfold dd
      rw [tx_size, tx_size, if_pos (by omega), tx_app]
      subst h0
      exact hz
    · rw [if_neg h0] at hz
      rw [if_pos (by omega), tx_size, if_pos (by omega), if_pos (by omega), specDec_is k _ hr (by omega), bind_some_, w64s i (by omega), lit1, tx_app]
      unfold dd
      rw [tx_size, tx_size, if_pos (by rw [List.length_append, List.length_singleton]; omega), tx_app]
      exact hz
theorem specComma_is (k : Nat) (l : List Int) (hl : l.length ≤ 1048576) (hw : I64s l) (hk : l.length + 31 < k) : spec_l06Comma.f k l = some (tx (jn Lib.itoa 44 l)) := by
  unfold spec_l06Comma.f
  exact specComma_l0 l hl hw l.length k 0 (by omega) hk

/- Numbers in decimal with a byte between them, as the program writes them. -/
/- Numbers in a range, as the program asks it of a list. -/
theorem areWithin2 (a b lo hi : Int) : impl_areWithin.all lo hi [a, b] = (decide (lo ≤ a ∧ a ≤ hi) && decide (lo ≤ b ∧ b ≤ hi)) := by
  simp [impl_areWithin.all]

/- A number lies in a range, as the program asks it. -/
theorem within_is (a b c : Int) : impl_within.f a b c = some (decide (b ≤ a ∧ a ≤ c)) := by
  unfold impl_within.f
  by_cases h : b ≤ a <;> simp [h]

/- Numbers in a range that rise, as the program asks it. -/
theorem implRises_loop (l : List Int) (n : Int) (hb : l.length ≤ 9223372036854775806) : ∀ (d k i : Nat), i + d = l.length → d < k → impl_isSet.l0 k l n l l.length i = some (upTo (riseOk l 0 (wrap64 (n - 1))) d i) := by
  intro d
  induction d with
  | zero =>
    intro k i hi' hk
    obtain ⟨k, rfl⟩ : ∃ m, k = m + 1 := ⟨k - 1, by omega⟩
    simp only [impl_isSet.l0]
    rw [if_neg (by omega)]
    rfl
  | succ d ih =>
    intro k i hi' hk
    obtain ⟨k, rfl⟩ : ∃ m, k = m + 1 := ⟨k - 1, by omega⟩
    have hz := ih k (i + 1) (by omega) (by omega)
    simp only [impl_isSet.l0, within_is, bind_some_, upTo, riseOk]
    rw [if_pos (by omega), if_pos (by omega), if_pos (by omega), w64s i (by omega), hz]
    by_cases h : i = 0
    · rw [if_neg (show ¬ (i : Int) > 0 by omega), ite_tt, decide_eq_true h, Bool.true_or, Bool.and_true]
    · have e : wrap64 ((i : Int) - 1) = ((i - 1 : Nat) : Int) := by rw [w64 _ (by omega) (by omega)]; omega
      rw [if_pos (show (i : Int) > 0 by omega), e, if_pos (show (0 : Int) ≤ ((i - 1 : Nat) : Int) by omega), if_pos (show ((i - 1 : Nat) : Int) < (l.length : Int) by omega), ite_ff, ite_tt, not_ge_dec, decide_eq_false h, Bool.false_or, Bool.and_assoc]
theorem implRises_is (k : Nat) (l : List Int) (n : Int) (hb : l.length ≤ 9223372036854775806) (hk : l.length < k) : impl_isSet.f k l n = some (rises l 0 (wrap64 (n - 1))) := by
  unfold impl_isSet.f rises
  exact implRises_loop l n hb l.length k 0 (by omega) hk

/- What the program asks of a head. -/
theorem implHead_l0 (cs : List S77) (fc st : List Int) (x y : Int) (hc : cs.length ≤ 1048576) (hb : fc.length ≤ 1048576) (hs : st.length ≤ 1048576) : ∀ (d k i : Nat), i + d = cs.length → d + st.length + 1 < k → impl_ValidHead.l0 k cs cs.length i cs fc st x y = some (upTo (cuOk cs) d i && (decide (1 ≤ (cs.length : Int) ∧ (cs.length : Int) ≤ 5) && (decide ((fc.length : Int) ≤ 60) && (impl_areWithin.all 0 100 fc && (decide ((st.length : Int) ≤ 8) && (rises st 0 (wrap64 ((fc.length : Int) - 1)) && (decide (0 ≤ x ∧ x ≤ 10000) && decide (0 ≤ y ∧ y ≤ 10000)))))))) := by
  intro d
  induction d with
  | zero =>
    intro k i hi' hk
    obtain ⟨k, rfl⟩ : ∃ m, k = m + 1 := ⟨k - 1, by omega⟩
    simp only [impl_ValidHead.l0, within_is, impl_areWithin.f, bind_some_, areWithin2]
    rw [if_neg (by omega), implRises_is k st _ (by omega) (by omega)]
    simp only [bind_some_, ite_tt, ite_pp, upTo, Bool.true_and, Bool.decide_eq_true]
  | succ d ih =>
    intro k i hi' hk
    obtain ⟨k, rfl⟩ : ∃ m, k = m + 1 := ⟨k - 1, by omega⟩
    have hz := ih k (i + 1) (by omega) (by omega)
    simp only [impl_ValidHead.l0, within_is, bind_some_]
    rw [if_pos (by omega), if_pos (by omega), if_pos (by omega), w64s i (by omega), hz, ite_tt, ite_tt]
    simp only [upTo, cuOk, Bool.and_assoc]
theorem implHead_is (k : Nat) (cs : List S77) (fc st : List Int) (x y : Int) (hc : cs.length ≤ 1048576) (hb : fc.length ≤ 1048576) (hs : st.length ≤ 1048576) (hk : cs.length + st.length + 3 < k) : impl_ValidHead.f k cs fc st x y = some (hdOk cs fc st x y) := by
  unfold impl_ValidHead.f
  have h0 := implHead_l0 cs fc st x y hc hb hs cs.length k 0 (by omega) (by omega)
  rw [show ((0 : Nat) : Int) = 0 by rfl] at h0
  rw [h0]
  unfold hdOk
  congr 1
  ac_rfl

/- An element of a list of structs, read at an index. -/
theorem rdCutter_at (l : List S77) (i : Nat) (h : i < l.length) : rd_T77 l (i : Int) = l[i] := by
  unfold rd_T77
  rw [Int.toNat_natCast, List.getD_eq_getElem?_getD, List.getElem?_eq_getElem h]
  rfl
/- A number lies in a range, as the reference asks it. -/
theorem in_is (a b c : Int) : spec_l00In.f a b c = some (decide (b ≤ a ∧ a ≤ c)) := by
  unfold spec_l00In.f
  by_cases h : b ≤ a <;> simp [h]

/- Numbers in a range that rise, as the reference asks it. -/
theorem specRises_loop (l : List Int) (lo hi : Int) (hb : l.length ≤ 9223372036854775806) : ∀ (d k i : Nat), i + d = l.length → d < k → spec_l00Rises.l0 k l lo hi i = some (upTo (riseOk l lo hi) d i) := by
  intro d
  induction d with
  | zero =>
    intro k i hi' hk
    obtain ⟨k, rfl⟩ : ∃ m, k = m + 1 := ⟨k - 1, by omega⟩
    simp only [spec_l00Rises.l0]
    rw [if_neg (by omega)]
    rfl
  | succ d ih =>
    intro k i hi' hk
    obtain ⟨k, rfl⟩ : ∃ m, k = m + 1 := ⟨k - 1, by omega⟩
    have hz := ih k (i + 1) (by omega) (by omega)
    simp only [spec_l00Rises.l0, in_is, bind_some_, upTo, riseOk]
    rw [if_pos (by omega), if_pos (by omega), w64s i (by omega), hz]
    by_cases h : i = 0
    · rw [if_neg (show ¬ (i : Int) > 0 by omega), ite_tt, decide_eq_true h, Bool.true_or, Bool.and_true]
    · have e : wrap64 ((i : Int) - 1) = ((i - 1 : Nat) : Int) := by rw [w64 _ (by omega) (by omega)]; omega
      rw [if_pos (show (i : Int) > 0 by omega), e, if_pos (show (0 : Int) ≤ ((i - 1 : Nat) : Int) by omega), if_pos (show ((i - 1 : Nat) : Int) < (l.length : Int) by omega), ite_ff, ite_tt, not_ge_dec, decide_eq_false h, Bool.false_or, Bool.and_assoc]
theorem specRises_is (k : Nat) (l : List Int) (lo hi : Int) (hb : l.length ≤ 9223372036854775806) (hk : l.length < k) : spec_l00Rises.f k l lo hi = some (rises l lo hi) := by
  unfold spec_l00Rises.f rises
  exact specRises_loop l lo hi hb l.length k 0 (by omega) hk

/- What the reference asks of a head. -/
theorem specHead_l1 (cs : List S77) (fc st : List Int) (x y : Int) (hb : fc.length ≤ 9223372036854775806) : ∀ (d k i : Nat), i + d = fc.length → d < k → spec_l08Is.l1 k i cs fc st x y = some (impl_areWithin.all 0 100 (fc.drop i) && (decide (0 ≤ x ∧ x ≤ 10000) && decide (0 ≤ y ∧ y ≤ 10000))) := by
  intro d
  induction d with
  | zero =>
    intro k i hi' hk
    obtain ⟨k, rfl⟩ : ∃ m, k = m + 1 := ⟨k - 1, by omega⟩
    simp only [spec_l08Is.l1, in_is, bind_some_]
    rw [if_neg (by omega), List.drop_of_length_le (by omega), ite_tt]
    rfl
  | succ d ih =>
    intro k i hi' hk
    obtain ⟨k, rfl⟩ : ∃ m, k = m + 1 := ⟨k - 1, by omega⟩
    have hz := ih k (i + 1) (by omega) (by omega)
    rw [drop_at fc i (by omega)]
    simp only [spec_l08Is.l1, in_is, bind_some_]
    rw [if_pos (by omega), if_pos (by omega), w64s i (by omega), hz, ite_tt]
    simp only [impl_areWithin.all, List.all_cons, Bool.and_assoc]
theorem specHead_l0 (cs : List S77) (fc st : List Int) (x y : Int) (hc : cs.length ≤ 9223372036854775806) (hb : fc.length ≤ 9223372036854775806) : ∀ (d k i : Nat), i + d = cs.length → d + fc.length + 1 < k → spec_l08Is.l0 k i cs fc st x y = some (upTo (cuOk cs) d i && (impl_areWithin.all 0 100 fc && (decide (0 ≤ x ∧ x ≤ 10000) && decide (0 ≤ y ∧ y ≤ 10000)))) := by
  intro d
  induction d with
  | zero =>
    intro k i hi' hk
    obtain ⟨k, rfl⟩ : ∃ m, k = m + 1 := ⟨k - 1, by omega⟩
    have h1 := specHead_l1 cs fc st x y hb fc.length k 0 (by omega) (by omega)
    rw [List.drop_zero] at h1
    simp only [spec_l08Is.l0]
    rw [if_neg (by omega)]
    exact h1
  | succ d ih =>
    intro k i hi' hk
    obtain ⟨k, rfl⟩ : ∃ m, k = m + 1 := ⟨k - 1, by omega⟩
    have hz := ih k (i + 1) (by omega) (by omega)
    simp only [spec_l08Is.l0, in_is, bind_some_]
    rw [if_pos (by omega), if_pos (by omega), w64s i (by omega), hz, ite_tt, ite_tt]
    simp only [upTo, cuOk, Bool.and_assoc]
theorem specIs_is (k : Nat) (cs : List S77) (fc st : List Int) (x y : Int) (hc : cs.length ≤ 1048576) (hb : fc.length ≤ 1048576) (hs : st.length ≤ 1048576) (hk : cs.length + fc.length + st.length + 3 < k) : spec_l08Is.f k cs fc st x y = some (hdOk cs fc st x y) := by
  obtain ⟨k, rfl⟩ : ∃ m, k = m + 1 := ⟨k - 1, by omega⟩
  have h0 := specHead_l0 cs fc st x y (by omega) (by omega) cs.length k 0 (by omega) (by omega)
  rw [show ((0 : Nat) : Int) = 0 by rfl] at h0
  unfold spec_l08Is.f hdOk
  rw [in_is, bind_some_, specRises_is (k + 1) st _ _ (by omega) (by omega), bind_some_]
  simp only [spec_l08Is.j0, h0, if_true]
  generalize upTo (cuOk cs) cs.length 0 = b1
  generalize impl_areWithin.all 0 100 fc = b2
  generalize rises st 0 (wrap64 ((fc.length : Int) - 1)) = b3
  by_cases h1 : (1 ≤ (cs.length : Int) ∧ (cs.length : Int) ≤ 5)
  · by_cases h2 : (fc.length : Int) > 60
    · rw [if_pos (decide_eq_true h1), if_pos h2, decide_eq_false (show ¬ (fc.length : Int) ≤ 60 by omega)]
      simp
    · rw [if_pos (decide_eq_true h1), if_neg h2, decide_eq_true (show (fc.length : Int) ≤ 60 by omega), decide_eq_true h1]
      by_cases h3 : (st.length : Int) > 8
      · rw [if_pos h3, decide_eq_false (show ¬ (st.length : Int) ≤ 8 by omega)]
        simp
      · rw [if_neg h3, decide_eq_true (show (st.length : Int) ≤ 8 by omega)]
        cases b3 <;> simp
  · rw [if_neg (by simpa using h1), decide_eq_false h1]
    simp


/- A list of the law's own structs is copied into the program's. -/



/- The text of a head, as both sides write it. -/
def cutT (c : S77) : List UInt8 := (Lib.itoa c.f0 ++ [47]) ++ Lib.itoa c.f1
def headT (cs : List S77) (fc st : List Int) (x y : Int) : List UInt8 := jn (fun z => z) 124 [jn cutT 44 cs, jn Lib.itoa 44 fc, jn Lib.itoa 44 st, jn Lib.itoa 44 [x, y]]
def C64 (cs : List S77) : Prop := ∀ c ∈ cs, (-9223372036854775808 ≤ c.f0 ∧ c.f0 ≤ 9223372036854775807) ∧ (-9223372036854775808 ≤ c.f1 ∧ c.f1 ≤ 9223372036854775807)
theorem cutT_len {c : S77} (h : (-9223372036854775808 ≤ c.f0 ∧ c.f0 ≤ 9223372036854775807) ∧ (-9223372036854775808 ≤ c.f1 ∧ c.f1 ≤ 9223372036854775807)) : (cutT c).length ≤ 43 := by
  have h1 := itoa_len h.1
  have h2 := itoa_len h.2
  unfold cutT
  simp only [List.length_append, List.length_singleton]
  omega
theorem jn_cuts {cs : List S77} (h : C64 cs) (i : Nat) : (jn cutT 44 (cs.take i)).length ≤ cs.length * 44 := by
  have h1 := jn_len cutT 44 43 (cs.take i) (fun x hx => cutT_len (h x (List.mem_of_mem_take hx)))
  have h2 : (cs.take i).length * (43 + 1) ≤ cs.length * 44 := Nat.mul_le_mul_right _ (by rw [List.length_take]; omega)
  omega
theorem headT_eq (cs : List S77) (fc st : List Int) (x y : Int) : headT cs fc st x y = ((((((((jn cutT 44 cs ++ [124]) ++ jn Lib.itoa 44 fc) ++ [124]) ++ jn Lib.itoa 44 st) ++ [124]) ++ Lib.itoa x) ++ [44]) ++ Lib.itoa y) := by
  unfold headT
  rw [jn_cons, jn_cons Lib.itoa 44 x [y]]
  simp
theorem specHeadT_l0 (cs : List S77) (fc st : List Int) (x y : Int) (hc : cs.length ≤ 1048576) (hf : fc.length ≤ 1048576) (hs : st.length ≤ 1048576) (h1 : C64 cs) (h2 : I64s fc) (h3 : I64s st) (h4 : -9223372036854775808 ≤ x ∧ x ≤ 9223372036854775807) (h5 : -9223372036854775808 ≤ y ∧ y ≤ 9223372036854775807) : ∀ (d k i : Nat), i + d = cs.length → d + fc.length + st.length + 40 < k → spec_l08Text.l0 k (tx (jn cutT 44 (cs.take i))) i cs fc st x y = some (tx (headT cs fc st x y)) := by
  intro d
  induction d with
  | zero =>
    intro k i hi hk
    obtain ⟨k, rfl⟩ : ∃ m, k = m + 1 := ⟨k - 1, by omega⟩
    have a1 := jn_cuts h1 cs.length
    have a2 := jn_ints 44 h2 fc.length
    have a3 := jn_ints 44 h3 st.length
    have a4 := itoa_len h4
    have a5 := itoa_len h5
    rw [List.take_of_length_le (Nat.le_refl _)] at a1 a2 a3
    simp only [spec_l08Text.l0]
    rw [if_neg (by omega), List.take_of_length_le (by omega), tx_size, if_pos (by omega), specComma_is k fc hf h2 (by omega), bind_some_, lit1, tx_app, tx_size, tx_size, if_pos (by simp only [List.length_append, List.length_singleton]; omega), tx_app, tx_size, if_pos (by simp only [List.length_append, List.length_singleton]; omega), specComma_is k st hs h3 (by omega), bind_some_, tx_app, tx_size, tx_size, if_pos (by simp only [List.length_append, List.length_singleton]; omega), tx_app, tx_size, if_pos (by simp only [List.length_append, List.length_singleton]; omega), specDec_is k x h4 (by omega), bind_some_, tx_app]
    unfold dd
    rw [tx_size, tx_size, if_pos (by simp only [List.length_append, List.length_singleton]; omega), tx_app, tx_size, if_pos (by simp only [List.length_append, List.length_singleton]; omega), specDec_is k y h5 (by omega), bind_some_, lit1, tx_app]
    unfold dd
    rw [tx_size, tx_size, if_pos (by simp only [List.length_append, List.length_singleton]; omega), tx_app, headT_eq]
  | succ d ih =>
    intro k i hi hk
    obtain ⟨k, rfl⟩ : ∃ m, k = m + 1 := ⟨k - 1, by omega⟩
    have hlt : i < cs.length := by omega
    have hr := h1 _ (List.getElem_mem hlt)
    have a1 := itoa_len hr.1
    have a2 := itoa_len hr.2
    have a3 := jn_cuts h1 i
    have hz := ih k (i + 1) (by omega) (by omega)
    rw [jn_take cutT 44 cs i hlt] at hz
    simp only [spec_l08Text.l0]
    rw [if_pos (by omega), rdCutter_at cs i hlt]
    by_cases h0 : i = 0
    · rw [if_pos h0] at hz
      rw [if_neg (by omega), if_pos (by omega), specDec_is k _ hr.1 (by omega), bind_some_]
      unfold dd
      rw [tx_size, if_pos (by omega), specDec_is k _ hr.2 (by omega), bind_some_, lit1, tx_app]
      unfold dd
      rw [tx_size, tx_size, if_pos (by simp only [List.length_append, List.length_singleton]; omega), tx_app, tx_size, tx_size, if_pos (by simp only [List.length_append, List.length_singleton]; omega), tx_app, w64s i (by omega)]
      subst h0
      exact hz
    · rw [if_neg h0] at hz
      rw [if_pos (by omega), tx_size, if_pos (by omega), if_pos (by omega), specDec_is k _ hr.1 (by omega), bind_some_]
      unfold dd
      rw [tx_size, if_pos (by omega), specDec_is k _ hr.2 (by omega), bind_some_, lit1, lit1, tx_app, tx_app]
      unfold dd
      rw [tx_size, tx_size, if_pos (by simp only [List.length_append, List.length_singleton]; omega), tx_app, tx_size, tx_size, if_pos (by simp only [List.length_append, List.length_singleton]; omega), tx_app, w64s i (by omega)]
      exact hz
/- What the numbers of a valid head are at most. -/
theorem rises_rng {l : List Int} {lo hi : Int} (h : rises l lo hi = true) : ∀ c ∈ l, lo ≤ c ∧ c ≤ hi := by
  intro c hc
  obtain ⟨i, hi2, e⟩ := List.getElem_of_mem hc
  unfold rises at h
  rw [upTo_iff] at h
  have := h i (by omega) (by omega)
  unfold riseOk at this
  simp only [Bool.and_eq_true, decide_eq_true_eq] at this
  rw [rd_at l i hi2, e] at this
  exact this.1
structure HdV (cs : List S77) (fc st : List Int) (x y : Int) : Prop where
  cn : 1 ≤ cs.length ∧ cs.length ≤ 5
  fn : fc.length ≤ 60
  sn : st.length ≤ 8
  cv : ∀ c ∈ cs, (1 ≤ c.f0 ∧ c.f0 ≤ 100) ∧ 1 ≤ c.f1 ∧ c.f1 ≤ 1000000
  fv : ∀ v ∈ fc, 0 ≤ v ∧ v ≤ 100
  sv : ∀ v ∈ st, 0 ≤ v ∧ v ≤ 60
  xv : 0 ≤ x ∧ x ≤ 10000
  yv : 0 ≤ y ∧ y ≤ 10000
theorem hdOk_vals {cs : List S77} {fc st : List Int} {x y : Int} (h : hdOk cs fc st x y = true) : HdV cs fc st x y := by
  unfold hdOk at h
  simp only [Bool.and_eq_true, decide_eq_true_eq] at h
  obtain ⟨h1, h2, h3, h4, h5, h6, h7, h8⟩ := h
  refine ⟨by omega, by omega, by omega, fun c hc => ?_, fun v hv => ?_, fun v hv => ?_, h7, h8⟩
  · obtain ⟨i, hi, e⟩ := List.getElem_of_mem hc
    rw [upTo_iff] at h5
    have := h5 i (by omega) (by omega)
    unfold cuOk at this
    simp only [Bool.and_eq_true, decide_eq_true_eq] at this
    rw [rdCutter_at cs i hi, e] at this
    exact this
  · unfold impl_areWithin.all at h6
    rw [List.all_eq_true] at h6
    have := h6 v hv
    simpa using this
  · have := rises_rng h4 v hv
    rw [w64 _ (by omega) (by omega)] at this
    omega
/- A list of structs is marked with rising numbers, and still holds them. -/
def iotaCutter (m : Int) (c : Nat) : List S77 := (List.range c).map fun (i : Nat) => ⟨m + 2 * (i : Int), m + 2 * (i : Int) + 1⟩
theorem iotaCutter_len (m : Int) (c : Nat) : (iotaCutter m c).length = c := by simp [iotaCutter]
theorem iotaCutter_get (m : Int) (c i : Nat) (h : i < (iotaCutter m c).length) : (iotaCutter m c)[i] = ⟨m + 2 * (i : Int), m + 2 * (i : Int) + 1⟩ := by simp [iotaCutter]
theorem rdCutter_set (l : List S77) (i : Nat) (x : S77) (h : i < l.length) : rd_T77 (l.set i x) (i : Int) = x := by
  rw [rdCutter_at _ i (by rw [List.length_set]; exact h), List.getElem_set_self]
theorem markCutterS_loop (c : Nat) (hb : c ≤ 4000000000000000) (m : Int) (hm : 0 ≤ m ∧ m ≤ 4000000000000000) : ∀ (d k i : Nat) (l : List S77), i + d = c → d < k → l.length = c → l.take i = (iotaCutter m c).take i → laws_markCutterS.l0 k l (m + 2 * (i : Int)) i = some (m + 2 * c, iotaCutter m c) := by
  intro d
  induction d with
  | zero =>
    intro k i l hi hk hl ht
    obtain ⟨k, rfl⟩ : ∃ m, k = m + 1 := ⟨k - 1, by omega⟩
    simp only [laws_markCutterS.l0]
    rw [if_neg (by omega)]
    rw [List.take_of_length_le (by omega), List.take_of_length_le (by rw [iotaCutter_len]; omega)] at ht
    rw [ht, show i = c by omega]
  | succ d ih =>
    intro k i l hi hk hl ht
    obtain ⟨k, rfl⟩ : ∃ m, k = m + 1 := ⟨k - 1, by omega⟩
    have e1 : wrap64 (m + 2 * (i : Int) + 1) = m + 2 * (i : Int) + 1 := by
      rw [w64 _ (by omega) (by omega)] <;> omega
    have e2 : wrap64 (m + 2 * (i : Int) + 1 + 1) = m + 2 * ((i + 1 : Nat) : Int) := by
      rw [w64 _ (by omega) (by omega)] <;> omega
    simp only [laws_markCutterS.l0, bind_some_, Int.toNat_natCast, List.set_set, rdCutter_set l i _ (show i < l.length by omega)]
    rw [if_pos (by omega), if_pos (by omega), w64s i (by omega)]
    simp only [Int.add_assoc, Int.reduceAdd] at *
    simp only [e1, e2, Int.add_assoc, Int.reduceAdd]
    have ht2 := fill_step (iotaCutter m c) l i ⟨m + 2 * (i : Int), m + 2 * (i : Int) + 1⟩ (by rw [iotaCutter_len]; omega) (by rw [iotaCutter_len]; exact hl) ht (iotaCutter_get m c i (by rw [iotaCutter_len]; omega))
    have hz := ih k (i + 1) _ (by omega) (by omega) (by rw [List.length_set]; exact hl) ht2
    simp only [Int.add_assoc, Int.reduceAdd, List.set_set] at hz ⊢
    exact hz
theorem markCutterS_is (k : Nat) (l : List S77) (m : Int) (hm : 0 ≤ m ∧ m ≤ 4000000000000000) (hb : l.length ≤ 4000000000000000) (hk : l.length < k) : laws_markCutterS.f k l m = some (m + 2 * l.length, iotaCutter m l.length) := by
  unfold laws_markCutterS.f
  have := markCutterS_loop l.length hb m hm l.length k 0 l (by omega) hk rfl (by simp)
  simpa using this

/- A list of structs that was marked still holds its marks. -/
theorem heldCutterS_loop (c : Nat) (hb : c ≤ 4000000000000000) (m : Int) (hm : 0 ≤ m ∧ m ≤ 4000000000000000) : ∀ (d k i : Nat), i + d = c → d < k → laws_heldCutterS.l0 k (iotaCutter m c) (m + 2 * (i : Int)) i = some (m + 2 * c) := by
  intro d
  induction d with
  | zero =>
    intro k i hi hk
    obtain ⟨k, rfl⟩ : ∃ m, k = m + 1 := ⟨k - 1, by omega⟩
    simp only [laws_heldCutterS.l0]
    rw [if_neg (by rw [iotaCutter_len]; omega), show i = c by omega]
  | succ d ih =>
    intro k i hi hk
    obtain ⟨k, rfl⟩ : ∃ m, k = m + 1 := ⟨k - 1, by omega⟩
    have hr : rd_T77 (iotaCutter m c) i = ⟨m + 2 * (i : Int), m + 2 * (i : Int) + 1⟩ := by rw [rdCutter_at _ i (by rw [iotaCutter_len]; omega), iotaCutter_get]
    have e1 : wrap64 (m + 2 * (i : Int) + 1) = m + 2 * (i : Int) + 1 := by
      rw [w64 _ (by omega) (by omega)] <;> omega
    have e2 : wrap64 (m + 2 * (i : Int) + 1 + 1) = m + 2 * ((i + 1 : Nat) : Int) := by
      rw [w64 _ (by omega) (by omega)] <;> omega
    have hz := ih k (i + 1) (by omega) (by omega)
    simp only [laws_heldCutterS.l0]
    rw [if_pos (by rw [iotaCutter_len]; omega), if_pos (by omega), w64s i (by omega)]
    simp only [hr, Int.add_assoc, Int.reduceAdd, if_true] at *
    simp only [e1, e2, Int.add_assoc, Int.reduceAdd, if_true]
    exact hz
theorem heldCutterS_is (k : Nat) (c : Nat) (m : Int) (hm : 0 ≤ m ∧ m ≤ 4000000000000000) (hb : c ≤ 4000000000000000) (hk : c < k) : laws_heldCutterS.f k (iotaCutter m c) m = some (m + 2 * c) := by
  unfold laws_heldCutterS.f
  have := heldCutterS_loop c hb m hm c k 0 (by omega) hk
  simpa using this

/- A list that was marked still holds its marks. -/
theorem heldInt_loop (n : Nat) (hb : n ≤ 4000000000000000000) (m : Int) (hm : 0 ≤ m ∧ m ≤ 4000000000000000000) : ∀ (d k i : Nat), i + d = n → d < k → laws_heldInt64S.l0 k (iota m n) (m + i) i = some (m + n) := by
  intro d
  induction d with
  | zero =>
    intro k i hi hk
    obtain ⟨k, rfl⟩ : ∃ m, k = m + 1 := ⟨k - 1, by omega⟩
    simp only [laws_heldInt64S.l0]
    rw [if_neg (by rw [iota_length]; omega), show i = n by omega]
  | succ d ih =>
    intro k i hi hk
    obtain ⟨k, rfl⟩ : ∃ m, k = m + 1 := ⟨k - 1, by omega⟩
    simp only [laws_heldInt64S.l0]
    have hr : rd (iota m n) i = m + i := by rw [rd_at _ i (by rw [iota_length]; omega), iota_get]
    rw [if_pos (by rw [iota_length]; omega), if_pos (by omega), if_pos hr, w64s i (by omega), w64 (m + i + 1) (by omega) (by omega), show m + (i : Int) + 1 = m + ((i + 1 : Nat) : Int) by omega]
    exact ih k (i + 1) (by omega) (by omega)
theorem heldInt_is (k : Nat) (n : Nat) (m : Int) (hm : 0 ≤ m ∧ m ≤ 4000000000000000000) (hb : n ≤ 4000000000000000000) (hk : n < k) : laws_heldInt64S.f k (iota m n) m = some (m + n) := by
  unfold laws_heldInt64S.f
  have := heldInt_loop n hb m hm n k 0 (by omega) hk
  simpa using this

/- A list of structs is equal to itself. -/
theorem eqCutterS_loop (a : List S77) (hb : a.length ≤ 9223372036854775807) : ∀ (d k i : Nat), i + d = a.length → d < k → laws_eqCutterS.l0 k a a i = some true := by
  intro d
  induction d with
  | zero =>
    intro k i hi hk
    obtain ⟨k, rfl⟩ : ∃ m, k = m + 1 := ⟨k - 1, by omega⟩
    simp only [laws_eqCutterS.l0]
    rw [if_neg (by omega)]
  | succ d ih =>
    intro k i hi hk
    obtain ⟨k, rfl⟩ : ∃ m, k = m + 1 := ⟨k - 1, by omega⟩
    simp only [laws_eqCutterS.l0, laws_eqCutter.f, if_true, bind_some_]
    rw [if_pos (by omega), if_pos (by omega), if_pos (by omega), w64s i (by omega)]
    exact ih k (i + 1) (by omega) (by omega)
theorem eqCutterS_refl (k : Nat) (a : List S77) (hb : a.length ≤ 9223372036854775807) (hk : a.length < k) : laws_eqCutterS.f k a a = some true := by
  unfold laws_eqCutterS.f
  rw [if_pos rfl]
  exact eqCutterS_loop a hb a.length k 0 (by omega) hk

/- Two lists of numbers are compared. -/
theorem eqInt_loop (a b : List Int) (hl : a.length = b.length) (hb : a.length ≤ 9223372036854775807) : ∀ (d k i : Nat), i + d = a.length → d < k → laws_eqInt64S.l0 k a b i = some (decide (a.drop i = b.drop i)) := by
  intro d
  induction d with
  | zero =>
    intro k i hi hk
    obtain ⟨k, rfl⟩ : ∃ m, k = m + 1 := ⟨k - 1, by omega⟩
    simp only [laws_eqInt64S.l0]
    rw [if_neg (by omega), List.drop_of_length_le (by omega), List.drop_of_length_le (by omega)]
    simp
  | succ d ih =>
    intro k i hi hk
    obtain ⟨k, rfl⟩ : ∃ m, k = m + 1 := ⟨k - 1, by omega⟩
    simp only [laws_eqInt64S.l0]
    rw [if_pos (by omega), if_pos (by omega), if_pos (by omega), w64s i (by omega), ih k (i + 1) (by omega) (by omega), drop_at a i (by omega), drop_at b i (by omega)]
    by_cases h : rd a i = rd b i
    · rw [if_pos h]; simp [h]
    · rw [if_neg h]; simp [h]
theorem eqInt_is (k : Nat) (a b : List Int) (hb : a.length ≤ 9223372036854775807) (hk : a.length < k) : laws_eqInt64S.f k a b = some (decide (a = b)) := by
  unfold laws_eqInt64S.f
  by_cases h : a.length = b.length
  · rw [if_pos (by omega)]
    have := eqInt_loop a b h hb a.length k 0 (by omega) hk
    simpa using this
  · rw [if_neg (by omega)]
    have : a ≠ b := fun e => h (by rw [e])
    simp [this]

/- A list of numbers is copied. -/
/- A head is copied, measured, and equal to itself. -/
theorem eqHead_refl (k : Nat) (cs : List S77) (fc st : List Int) (x y : Int) (hc : cs.length ≤ 1048576) (hb : fc.length ≤ 1048576) (hs : st.length ≤ 1048576) (hk : cs.length + fc.length + st.length < k) : laws_eqHead.f k cs fc st x y cs fc st x y = some true := by
  unfold laws_eqHead.f
  rw [eqCutterS_refl k cs (by omega) (by omega), bind_some_, if_pos rfl, eqInt_is k fc fc (by omega) (by omega), bind_some_, if_pos (decide_eq_true rfl), eqInt_is k st st (by omega) (by omega), bind_some_, if_pos (decide_eq_true rfl), if_pos rfl, if_pos rfl]
/- A list is marked with rising numbers, and still holds them. -/
theorem markInt_loop (n : Nat) (hb : n ≤ 4000000000000000000) (m : Int) (hm : 0 ≤ m ∧ m ≤ 4000000000000000000) : ∀ (d k i : Nat) (l : List Int), i + d = n → d < k → l.length = n → l.take i = (iota m n).take i → laws_markInt64S.l0 k l (m + i) i = some (m + n, iota m n) := by
  intro d
  induction d with
  | zero =>
    intro k i l hi hk hl ht
    obtain ⟨k, rfl⟩ : ∃ m, k = m + 1 := ⟨k - 1, by omega⟩
    simp only [laws_markInt64S.l0]
    rw [if_neg (by omega)]
    rw [List.take_of_length_le (by omega), List.take_of_length_le (by rw [iota_length]; omega)] at ht
    rw [ht, show i = n by omega]
  | succ d ih =>
    intro k i l hi hk hl ht
    obtain ⟨k, rfl⟩ : ∃ m, k = m + 1 := ⟨k - 1, by omega⟩
    simp only [laws_markInt64S.l0]
    rw [if_pos (by omega), if_pos (by omega), w64s i (by omega), Int.toNat_natCast, w64 (m + i + 1) (by omega) (by omega), show m + (i : Int) + 1 = m + ((i + 1 : Nat) : Int) by omega]
    exact ih k (i + 1) _ (by omega) (by omega) (by rw [List.length_set]; exact hl) (fill_step (iota m n) l i _ (by rw [iota_length]; omega) (by rw [iota_length]; exact hl) ht (iota_get m n i (by rw [iota_length]; omega)))
theorem markInt_is (k : Nat) (l : List Int) (m : Int) (hm : 0 ≤ m ∧ m ≤ 4000000000000000000) (hb : l.length ≤ 4000000000000000000) (hk : l.length < k) : laws_markInt64S.f k l m = some (m + l.length, iota m l.length) := by
  unfold laws_markInt64S.f
  have := markInt_loop l.length hb m hm l.length k 0 l (by omega) hk rfl (by simp)
  simpa using this

/- A text cut at the first place of another one. -/
theorem idx_app (c : UInt8) (t r : List UInt8) : ∀ p : List UInt8, c ∉ p → Lib.index (p ++ ((c :: t) ++ r)) (c :: t) = (p.length : Int)
  | [], _ => by
    have h : (c :: t).isPrefixOf ((c :: t) ++ r) = true := List.isPrefixOf_iff_prefix.mpr (List.prefix_append _ _)
    rw [List.cons_append] at h
    rw [List.nil_append]
    show Lib.index (c :: (t ++ r)) (c :: t) = 0
    unfold Lib.index
    rw [if_pos h]
  | b :: p, hc => by
    have hb : ¬ c = b := fun e => hc (by simp [e])
    have h : (c :: t).isPrefixOf (b :: (p ++ ((c :: t) ++ r))) = false := by
      simp only [List.isPrefixOf]
      rw [beq_eq_false_iff_ne.mpr hb, Bool.false_and]
    have ih := idx_app c t r p (fun e => hc (by simp [e]))
    rw [List.cons_append]
    unfold Lib.index
    rw [h, ih, if_neg (by simp), if_neg (by simp), List.length_cons]
    omega
theorem ext_tx (s : List UInt8) (f i : Nat) : (tx s).extract f i = tx ((s.drop f).take (i - f)) := by
  apply ByteArray.ext
  rw [ByteArray.data_extract]
  simp [tx]

/- A text in the parts between the places of a byte. -/
def splitL (c : UInt8) : List UInt8 → List (List UInt8)
  | [] => [[]]
  | b :: l => if b = c then [] :: splitL c l else match splitL c l with
    | [] => [[b]]
    | p :: ps => (b :: p) :: ps
theorem splitL_ne (c : UInt8) : ∀ s, splitL c s ≠ []
  | [] => by simp [splitL]
  | b :: l => by
    simp only [splitL]
    split
    · simp
    · split <;> simp
theorem splitL_one (c : UInt8) : ∀ p : List UInt8, c ∉ p → splitL c p = [p]
  | [], _ => rfl
  | b :: p, h => by
    simp only [splitL]
    rw [if_neg (fun e => h (by simp [e])), splitL_one c p (fun e => h (by simp [e]))]
theorem splitL_app (c : UInt8) (r : List UInt8) : ∀ p : List UInt8, c ∉ p → splitL c (p ++ c :: r) = p :: splitL c r
  | [], _ => by
    rw [List.nil_append]
    simp only [splitL]
    rw [if_pos trivial]
  | b :: p, h => by
    rw [List.cons_append]
    simp only [splitL]
    rw [if_neg (fun e => h (by simp [e])), splitL_app c r p (fun e => h (by simp [e]))]
theorem splitL_cons (c : UInt8) (s : List UInt8) : ∃ p ps, splitL c s = p :: ps := by
  cases h : splitL c s with
  | nil => exact absurd h (splitL_ne c s)
  | cons p ps => exact ⟨p, ps, rfl⟩
theorem splitL_join (c : UInt8) : ∀ s : List UInt8, jn (fun z => z) c (splitL c s) = s
  | [] => by simp [splitL, jn_one]
  | b :: l => by
    have ih := splitL_join c l
    obtain ⟨p, ps, e⟩ := splitL_cons c l
    simp only [splitL]
    rw [e] at ih ⊢
    split
    · rename_i h
      rw [jn_cons, List.map_cons, List.flatten_cons]
      rw [jn_cons] at ih
      rw [List.nil_append, List.cons_append, ih, h]
    · dsimp only
      rw [jn_cons] at ih ⊢
      rw [List.cons_append, ih]
theorem splitL_of (c : UInt8) : ∀ ps : List (List UInt8), ps ≠ [] → (∀ p ∈ ps, c ∉ p) → splitL c (jn (fun z => z) c ps) = ps
  | [], h, _ => absurd rfl h
  | [p], _, h => by rw [jn_one]; exact splitL_one c p (h p (by simp))
  | p :: q :: ps, _, h => by
    have ih := splitL_of c (q :: ps) (by simp) (fun z hz => h z (List.mem_cons_of_mem _ hz))
    rw [jn_cons, List.map_cons, List.flatten_cons, List.cons_append, splitL_app c _ p (h p (by simp))]
    rw [jn_cons] at ih
    rw [ih]
theorem splitL_len (c : UInt8) : ∀ s : List UInt8, (splitL c s).length ≤ s.length + 1 ∧ ∀ p ∈ splitL c s, p.length ≤ s.length
  | [] => by simp [splitL]
  | b :: l => by
    have ih := splitL_len c l
    obtain ⟨q, qs, e⟩ := splitL_cons c l
    simp only [splitL]
    rw [e] at ih ⊢
    simp only [List.length_cons] at ih ⊢
    have hq := ih.2 q (by simp)
    split
    · refine ⟨by simp only [List.length_cons]; omega, fun p hp => ?_⟩
      rcases List.mem_cons.mp hp with e2 | e2
      · rw [e2]; simp
      · have := ih.2 p e2; omega
    · refine ⟨by simp only [List.length_cons]; omega, fun p hp => ?_⟩
      rcases List.mem_cons.mp hp with e2 | e2
      · rw [e2, List.length_cons]; omega
      · have := ih.2 p (by simp [e2]); omega
theorem mem_split (c : UInt8) : ∀ s : List UInt8, c ∈ s → ∃ p r, s = p ++ c :: r ∧ c ∉ p
  | [], h => by simp at h
  | b :: l, h => by
    by_cases e : b = c
    · exact ⟨[], l, by rw [e]; rfl, by simp⟩
    · obtain ⟨p, r, e1, e2⟩ := mem_split c l (by rcases List.mem_cons.mp h with z | z; exact absurd z.symm e; exact z)
      refine ⟨b :: p, r, by rw [e1]; rfl, fun hc => ?_⟩
      rcases List.mem_cons.mp hc with z | z
      · exact e z.symm
      · exact e2 z
theorem idx_none (c : UInt8) : ∀ s : List UInt8, c ∉ s → Lib.index s [c] = -1
  | [], _ => rfl
  | b :: l, h => by
    have hb : ¬ c = b := fun e => h (by simp [e])
    have h2 : [c].isPrefixOf (b :: l) = false := by
      simp only [List.isPrefixOf]
      rw [beq_eq_false_iff_ne.mpr hb, Bool.false_and]
    unfold Lib.index
    rw [h2, idx_none c l (fun e => h (by simp [e])), if_neg (by simp), if_pos (by simp)]
theorem splitK_is (c : UInt8) : ∀ (n : Nat) (s : List UInt8), s.length ≤ n → Lib.splitK [c] 0 (Lib.count s [c]) s = splitL c s := by
  intro n
  induction n with
  | zero =>
    intro s hs
    have : s = [] := List.length_eq_zero_iff.mp (by omega)
    subst this
    rw [Lib.count_miss (idx_none c [] (by simp))]
    rfl
  | succ n ih =>
    intro s hs
    by_cases h : c ∈ s
    · obtain ⟨p, r, e, hp⟩ := mem_split c s h
      have hi := idx_app c [] r p hp
      rw [show p ++ ((c :: []) ++ r) = s by rw [e]; rfl] at hi
      have hd : s.drop (p.length + [c].length) = r := by
        rw [e, List.length_singleton, show p ++ c :: r = (p ++ [c]) ++ r by simp, show p.length + 1 = (p ++ [c]).length by simp, List.drop_left]
      have hl : r.length ≤ n := by
        rw [e] at hs
        simp only [List.length_append, List.length_cons] at hs
        omega
      rw [Lib.count_hit (by simp) hi, hd, Nat.add_comm 1]
      unfold Lib.splitK
      rw [hi, if_neg (by simp), Int.toNat_natCast, hd, ih r hl, e, splitL_app c r p hp]
      simp
    · rw [Lib.count_miss (idx_none c s h), splitL_one c s h]
      rfl

/- The library's split, as a list of texts. -/
theorem split_is (c : UInt8) (s : List UInt8) (hs : s.length < 4294967281) : strings_Split.f (tx s) (tx [c]) = some ((splitL c s).map tx) := by
  unfold strings_Split.f
  rw [tx_size, tx_size, if_pos ⟨hs, by simp⟩]
  congr 1
  have h := Lib.splitB_data (tx [c]) 0 (Lib.countB (tx s) (tx [c])) (tx s)
  rw [tx_data, tx_data, show Lib.countB (tx s) (tx [c]) = Lib.count (tx s).data.toList (tx [c]).data.toList from rfl, tx_data, tx_data, splitK_is c s.length s (Nat.le_refl _)] at h
  rw [← h, List.map_map, show Lib.countB (tx s) (tx [c]) = Lib.count (tx s).data.toList (tx [c]).data.toList from rfl, tx_data, tx_data]
  exact ((List.map_congr_left (fun z _ => tx_of z)).trans (List.map_id _)).symm

/- The number with a text: what the library's parse and print say together. -/
theorem tx_toList (l : List UInt8) : (tx l).toList = l := by
  rw [ByteArray.toList_eq]
  exact tx_data l
theorem dec_digits : ∀ (F m : Nat), m < F → ∀ c ∈ Lib.decDigits m, 48 ≤ c.toNat ∧ c.toNat ≤ 57 := by
  intro F
  induction F with
  | zero => intro m h; omega
  | succ F ih =>
    intro m hm c hc
    have hlt := Nat.mod_lt m (show 0 < 10 by decide)
    have hd : ∀ c ∈ [UInt8.ofNat (48 + m % 10)], 48 ≤ c.toNat ∧ c.toNat ≤ 57 := fun c hc => by
      rw [List.mem_singleton.mp hc, UInt8.toNat_ofNat']
      omega
    by_cases h : m < 10
    · rw [decDigits_low h] at hc
      exact hd c hc
    · rw [decDigits_more h] at hc
      rcases List.mem_append.mp hc with e | e
      · exact ih (m / 10) (by omega) c e
      · exact hd c e
theorem dec_ne (m : Nat) : Lib.decDigits m ≠ [] := by
  by_cases h : m < 10
  · rw [decDigits_low h]; simp
  · rw [decDigits_more h]; simp
theorem parse_dd : ∀ (F m : Nat), m < F → m ≤ 18446744073709551615 → ∀ r, Lib.parseUintM 18446744073709551615 0 (Lib.decDigits m ++ r) = Lib.parseUintM 18446744073709551615 m r := by
  intro F
  induction F with
  | zero => intro m h; omega
  | succ F ih =>
    intro m hm hb r
    have hlt := Nat.mod_lt m (show 0 < 10 by decide)
    have hd : (UInt8.ofNat (48 + m % 10)).toNat = 48 + m % 10 := by rw [UInt8.toNat_ofNat']; omega
    by_cases h : m < 10
    · rw [decDigits_low h, List.singleton_append]
      simp only [Lib.parseUintM]
      rw [hd, if_pos (by omega), if_neg (by omega), if_neg (by omega), show 0 * 10 + (48 + m % 10 - 48) = m by omega]
    · rw [decDigits_more h, List.append_assoc, ih (m / 10) (by omega) (by omega), List.singleton_append]
      simp only [Lib.parseUintM]
      rw [hd, if_pos (by omega), if_neg (by omega), if_neg (by omega), show m / 10 * 10 + (48 + m % 10 - 48) = m by omega]
theorem parse_mag (m : Nat) (hb : m ≤ 18446744073709551615) : Lib.parseUintB 64 (Lib.decDigits m) = .ok m := by
  unfold Lib.parseUintB
  rw [if_neg (dec_ne m), show 2 ^ 64 - 1 = 18446744073709551615 from rfl]
  have := parse_dd (m + 1) m (by omega) hb []
  rw [List.append_nil] at this
  rw [this]
  rfl
theorem parse_itoa (n : Int) (hn : -9223372036854775808 ≤ n ∧ n ≤ 9223372036854775807) : Lib.parseIntB 64 (Lib.itoa n) = .ok n := by
  unfold Lib.itoa
  by_cases h : n < 0
  · rw [if_pos h]
    unfold Lib.parseIntB
    have e45 : (45 : UInt8).toNat = 45 := rfl
    simp only [e45]
    rw [if_pos (Or.inr trivial), parse_mag _ (by omega)]
    simp only [show (2 ^ (64 - 1) : Nat) = 9223372036854775808 from rfl]
    rw [if_neg (by simp), if_neg (by omega), if_pos trivial]
    congr 1
    omega
  · rw [if_neg h]
    have hp := parse_mag n.toNat (by omega)
    cases hl : Lib.decDigits n.toNat with
    | nil => exact absurd hl (dec_ne _)
    | cons c r =>
      have hc := dec_digits (n.toNat + 1) n.toNat (by omega) c (by rw [hl]; simp)
      rw [hl] at hp
      unfold Lib.parseIntB
      dsimp only
      rw [if_neg (by omega), hp]
      simp only [show (2 ^ (64 - 1) : Nat) = 9223372036854775808 from rfl]
      rw [if_neg (by omega), if_neg (by omega), if_neg (by omega)]
      congr 1
      omega
def decOf (s : List UInt8) : Option Int := match Lib.parseIntB 64 s with
  | .ok v => if Lib.itoa v = s then some v else none
  | _ => none
theorem decOf_itoa (n : Int) (hn : -9223372036854775808 ≤ n ∧ n ≤ 9223372036854775807) : decOf (Lib.itoa n) = some n := by
  unfold decOf
  rw [parse_itoa n hn]
  simp
theorem decOf_some {s : List UInt8} {n : Int} (h : decOf s = some n) : Lib.itoa n = s ∧ -9223372036854775808 ≤ n ∧ n ≤ 9223372036854775807 := by
  unfold decOf at h
  cases hp : Lib.parseIntB 64 s with
  | ok v =>
    rw [hp] at h
    dsimp only at h
    have hb := Lib.parseIntB_bounds (B := 64) hp
    rw [show ((2 ^ (64 - 1) : Nat) : Int) = 9223372036854775808 from rfl] at hb
    split at h
    · rename_i e
      obtain rfl := Option.some.inj h
      exact ⟨e, by omega⟩
    · cases h
  | range => rw [hp] at h; cases h
  | _ => rw [hp] at h; cases h
def valIn (lo hi : Int) (s : List UInt8) : Int × Bool := match decOf s with
  | some v => if lo ≤ v ∧ v ≤ hi then (v, true) else (0, false)
  | none => (0, false)
theorem valIn_itoa {lo hi n : Int} (hn : -9223372036854775808 ≤ n ∧ n ≤ 9223372036854775807) (h : lo ≤ n ∧ n ≤ hi) : valIn lo hi (Lib.itoa n) = (n, true) := by
  unfold valIn
  rw [decOf_itoa n hn]
  dsimp only
  rw [if_pos h]
theorem valIn_true {lo hi : Int} {s : List UInt8} (h : (valIn lo hi s).2 = true) : Lib.itoa (valIn lo hi s).1 = s ∧ (-9223372036854775808 ≤ (valIn lo hi s).1 ∧ (valIn lo hi s).1 ≤ 9223372036854775807) ∧ lo ≤ (valIn lo hi s).1 ∧ (valIn lo hi s).1 ≤ hi := by
  unfold valIn at h ⊢
  cases hd : decOf s with
  | none => rw [hd] at h; cases h
  | some v =>
    rw [hd] at h
    have := decOf_some hd
    dsimp only at h ⊢
    split at h
    · rename_i hb
      rw [if_pos hb]
      exact ⟨this.1, this.2, hb⟩
    · cases h

/- The numbers of a text, as the reference reads them, plainly. -/
def isDg (c : UInt8) : Bool := decide (48 ≤ c.toNat ∧ c.toNat ≤ 57)
def takeD : Nat → List UInt8 → Int → Int × List UInt8
  | 0, s, a => (a, s)
  | _ + 1, [], a => (a, [])
  | n + 1, c :: r, a => if isDg c = true then takeD n r (wrap64 (wrap64 (10 * a) + (((c.toNat : Int) - 48) % 256))) else (a, c :: r)
theorem takeD_len : ∀ (n : Nat) (s : List UInt8) (a : Int), (takeD n s a).2.length ≤ s.length
  | 0, s, a => Nat.le_refl _
  | n + 1, [], a => Nat.le_refl _
  | n + 1, c :: r, a => by
    simp only [takeD]
    split
    · have := takeD_len n r (wrap64 (wrap64 (10 * a) + (((c.toNat : Int) - 48) % 256)))
      rw [List.length_cons]
      omega
    · exact Nat.le_refl _
def tok (c : UInt8) (r : List UInt8) : Int := if isDg c = true then 1 else if c = 45 then (match r with | [] => 0 | d :: _ => if isDg d = true then -1 else 0) else 0
def nums : Nat → List UInt8 → List Int → List Int
  | 0, _, out => out
  | _ + 1, [], out => out
  | F + 1, c :: r, out => if tok c r = 1 then nums F (takeD 8 (c :: r) 0).2 (out ++ [wrap64 (1 * (takeD 8 (c :: r) 0).1)]) else if tok c r = -1 then nums F (takeD 8 r 0).2 (out ++ [wrap64 (-1 * (takeD 8 r 0).1)]) else nums F r out
theorem nums_fuel : ∀ (F G : Nat) (s : List UInt8) (out : List Int), s.length < F → s.length < G → nums F s out = nums G s out
  | 0, _, _, _, h, _ => by omega
  | _ + 1, 0, _, _, _, h => by omega
  | F + 1, G + 1, [], out, _, _ => rfl
  | F + 1, G + 1, c :: r, out, h1, h2 => by
    simp only [List.length_cons] at h1 h2
    simp only [nums]
    split
    · rename_i ht
      have hd : isDg c = true := by
        unfold tok at ht
        split at ht
        · assumption
        · split at ht
          · split at ht
            · omega
            · split at ht <;> omega
          · omega
      have e : takeD 8 (c :: r) 0 = takeD 7 r (wrap64 (wrap64 (10 * 0) + (((c.toNat : Int) - 48) % 256))) := by
        simp only [takeD]
        rw [if_pos hd]
      have := takeD_len 7 r (wrap64 (wrap64 (10 * 0) + (((c.toNat : Int) - 48) % 256)))
      rw [e]
      exact nums_fuel F G _ _ (by omega) (by omega)
    · split
      · have := takeD_len 8 r 0
        exact nums_fuel F G _ _ (by omega) (by omega)
      · exact nums_fuel F G r out (by omega) (by omega)
def numsOf (s : List UInt8) (out : List Int) : List Int := nums (s.length + 1) s out
theorem numsOf_nil (out : List Int) : numsOf [] out = out := rfl
theorem numsOf_skip (c : UInt8) (r : List UInt8) (out : List Int) (h : tok c r = 0) : numsOf (c :: r) out = numsOf r out := by
  unfold numsOf
  rw [List.length_cons]
  simp only [nums]
  rw [if_neg (by omega), if_neg (by omega)]
def stopsDg : List UInt8 → Prop
  | [] => True
  | c :: _ => isDg c = false
theorem takeD_dec : ∀ (F m : Nat), m < F → m ≤ 99999999 → ∀ (n : Nat), (Lib.decDigits m).length ≤ n → ∀ r, takeD n (Lib.decDigits m ++ r) 0 = takeD (n - (Lib.decDigits m).length) r (m : Int) := by
  intro F
  induction F with
  | zero => intro m h; omega
  | succ F ih =>
    intro m hm hb n hn r
    have hlt := Nat.mod_lt m (show 0 < 10 by decide)
    have hd : (UInt8.ofNat (48 + m % 10)).toNat = 48 + m % 10 := by rw [UInt8.toNat_ofNat']; omega
    have hg : isDg (UInt8.ofNat (48 + m % 10)) = true := by unfold isDg; exact decide_eq_true (by omega)
    by_cases h : m < 10
    · rw [decDigits_low h] at hn ⊢
      rw [List.length_singleton] at hn ⊢
      obtain ⟨n, rfl⟩ : ∃ q, n = q + 1 := ⟨n - 1, by omega⟩
      rw [List.singleton_append]
      simp only [takeD]
      rw [if_pos hg, hd, w64 (10 * 0) (by omega) (by omega), w64 _ (by omega) (by omega), show (10 * 0 + (((48 + m % 10 : Nat) : Int) - 48) % 256) = (m : Int) by omega, Nat.add_sub_cancel]
    · rw [decDigits_more h] at hn ⊢
      rw [List.length_append, List.length_singleton] at hn ⊢
      rw [List.append_assoc, ih (m / 10) (by omega) (by omega) n (by omega), List.singleton_append]
      obtain ⟨q, e⟩ : ∃ q, n - (Lib.decDigits (m / 10)).length = q + 1 := ⟨n - (Lib.decDigits (m / 10)).length - 1, by omega⟩
      rw [show n - ((Lib.decDigits (m / 10)).length + 1) = q by omega, e]
      simp only [takeD]
      rw [if_pos hg, hd, w64 (10 * ((m / 10 : Nat) : Int)) (by omega) (by omega), w64 _ (by omega) (by omega), show (10 * ((m / 10 : Nat) : Int) + (((48 + m % 10 : Nat) : Int) - 48) % 256) = (m : Int) by omega]
theorem takeD_stop (q : Nat) (r : List UInt8) (a : Int) (h : stopsDg r) : takeD q r a = (a, r) := by
  cases q with
  | zero => rfl
  | succ q =>
    cases r with
    | nil => rfl
    | cons c r =>
      simp only [takeD]
      rw [if_neg (by rw [show isDg c = false from h]; simp)]
theorem nDig8 (m : Nat) (h : m ≤ 99999999) : (Lib.decDigits m).length ≤ 8 := by
  rw [Lib.decDigits_length]
  have : ∀ (d m : Nat), m < 10 ^ (d + 1) → Lib.nDigits m ≤ d + 1 := by
    intro d
    induction d with
    | zero => intro m h; rw [Lib.nDigits_small (by simpa using h)]; omega
    | succ d ih =>
      intro m h
      by_cases c : m < 10
      · rw [Lib.nDigits_small c]; omega
      · have := ih (m / 10) (by rw [Nat.pow_succ] at h; omega)
        rw [Lib.nDigits_big c]
        omega
  exact this 7 m (by omega)
theorem numsOf_int (n : Int) (hn : -99999999 ≤ n ∧ n ≤ 99999999) (r : List UInt8) (hr : stopsDg r) (out : List Int) : numsOf (Lib.itoa n ++ r) out = numsOf r (out ++ [n]) := by
  by_cases c : n < 0
  · obtain ⟨m, e⟩ : ∃ m : Nat, n = -(m : Int) := ⟨n.natAbs, by omega⟩
    have ei : Lib.itoa n = 45 :: Lib.decDigits m := by
      unfold Lib.itoa
      rw [if_pos c, show n.natAbs = m by omega]
    have ht := takeD_dec (m + 1) m (by omega) (by omega) 8 (nDig8 m (by omega)) r
    rw [takeD_stop _ r _ hr] at ht
    have hk : tok 45 (Lib.decDigits m ++ r) = -1 := by
      unfold tok
      rw [if_neg (by decide), if_pos rfl]
      cases hq : Lib.decDigits m with
      | nil => exact absurd hq (dec_ne m)
      | cons x t =>
        have := dec_digits (m + 1) m (by omega) x (by rw [hq]; simp)
        rw [List.cons_append]
        dsimp only
        rw [if_pos (by unfold isDg; exact decide_eq_true (by omega))]
    unfold numsOf
    rw [ei, List.cons_append, List.length_cons]
    simp only [nums]
    rw [hk, if_neg (by omega), if_pos rfl, ht]
    dsimp only
    rw [show wrap64 (-1 * (m : Int)) = n by rw [w64 _ (by omega) (by omega)]; omega]
    exact nums_fuel _ _ _ _ (by rw [List.length_append]; omega) (by omega)
  · obtain ⟨m, e⟩ : ∃ m : Nat, n = (m : Int) := ⟨n.toNat, by omega⟩
    have ei : Lib.itoa n = Lib.decDigits m := by
      unfold Lib.itoa
      rw [if_neg c, show n.toNat = m by omega]
    have ht := takeD_dec (m + 1) m (by omega) (by omega) 8 (nDig8 m (by omega)) r
    rw [takeD_stop _ r _ hr] at ht
    rw [ei]
    unfold numsOf
    cases hq : Lib.decDigits m with
    | nil => exact absurd hq (dec_ne m)
    | cons x t =>
      have hx := dec_digits (m + 1) m (by omega) x (by rw [hq]; simp)
      have hk : tok x (t ++ r) = 1 := by
        unfold tok
        rw [if_pos (by unfold isDg; exact decide_eq_true (by omega))]
      rw [hq, List.cons_append] at ht
      rw [List.cons_append, List.length_cons]
      simp only [nums]
      rw [hk, if_pos rfl, ht]
      dsimp only
      rw [show wrap64 (1 * (m : Int)) = n by rw [w64 _ (by omega) (by omega)]; omega]
      exact nums_fuel _ _ _ _ (by rw [List.length_append]; omega) (by omega)
theorem tok_sep (c : UInt8) (r : List UInt8) (h1 : isDg c = false) (h2 : c ≠ 45) : tok c r = 0 := by
  unfold tok
  rw [if_neg (by rw [h1]; simp), if_neg h2]
theorem jn_two {α : Type} (f : α → List UInt8) (c : UInt8) (x y : α) (l : List α) : jn f c (x :: y :: l) = f x ++ (c :: jn f c (y :: l)) := by
  rw [jn_cons, jn_cons, List.map_cons, List.flatten_cons, List.cons_append]
theorem numsOf_jn (c : UInt8) (h1 : isDg c = false) (h2 : c ≠ 45) (r : List UInt8) (hr : stopsDg r) : ∀ (l out : List Int), (∀ v ∈ l, -99999999 ≤ v ∧ v ≤ 99999999) → numsOf (jn Lib.itoa c l ++ r) out = numsOf r (out ++ l)
  | [], out, _ => by rw [jn_nil, List.nil_append, List.append_nil]
  | [x], out, h => by rw [jn_one, numsOf_int x (h x (by simp)) r hr]
  | x :: y :: l, out, h => by
    rw [jn_two, List.append_assoc, numsOf_int x (h x (by simp)) _ (by rw [List.cons_append]; exact h1), List.cons_append, numsOf_skip c _ _ (tok_sep c _ h1 h2), numsOf_jn c h1 h2 r hr (y :: l) _ (fun v hv => h v (List.mem_cons_of_mem _ hv))]
    simp

/- More of joined texts. -/
theorem jn_ge (c : UInt8) : ∀ ps : List (List UInt8), ∀ p ∈ ps, p.length + ps.length ≤ (jn (fun z => z) c ps).length + 1
  | [], p, h => by simp at h
  | [q], p, h => by rw [List.mem_singleton.mp h, jn_one]; simp
  | q :: q2 :: ps, p, h => by
    have ih := jn_ge c (q2 :: ps)
    rw [jn_two]
    simp only [List.length_append, List.length_cons] at ih ⊢
    rcases List.mem_cons.mp h with e | e
    · have := ih q2 (by simp)
      rw [e]
      omega
    · have := ih p e
      omega
theorem jn_no {α : Type} (f : α → List UInt8) (c d : UInt8) (hd : d ≠ c) : ∀ l : List α, (∀ x ∈ l, d ∉ f x) → d ∉ jn f c l
  | [], _ => by rw [jn_nil]; simp
  | [x], h => by rw [jn_one]; exact h x (by simp)
  | x :: y :: l, h => by
    rw [jn_two]
    intro hm
    rcases List.mem_append.mp hm with e | e
    · exact h x (by simp) e
    · rcases List.mem_cons.mp e with e2 | e2
      · exact hd e2
      · exact jn_no f c d hd (y :: l) (fun z hz => h z (List.mem_cons_of_mem _ hz)) e2




/- The program's number with a text. -/
theorem implReadIn_is (s : List UInt8) (lo hi : Int) (hs : s.length ≤ 281474976710656) : impl_readIn.f (tx s) lo hi = some (valIn lo hi s) := by
  unfold impl_readIn.f valIn decOf
  rw [tx_size, if_pos hs, tx_data, tx_toList]
  congr 1
  cases Lib.parseIntB 64 s with
  | ok v =>
    dsimp only
    rw [show (⟨(Lib.itoa v).toArray⟩ : ByteArray) = tx (Lib.itoa v) from rfl, tx_toList]
    by_cases h : Lib.itoa v = s
    · rw [if_pos h]
      dsimp only
      by_cases h2 : lo ≤ v ∧ v ≤ hi
      · rw [if_pos ⟨h, h2⟩, if_pos h2]
      · rw [if_neg (fun z => h2 z.2), if_neg h2]
    · rw [if_neg (fun z => h z.1), if_neg h]
  | range => rfl
  | _ => rfl
/- The numbers that stand in a text, as the program reads them. -/
def allGo (lo hi : Int) : List (List UInt8) → List Int → List Int × Bool
  | [], acc => (acc, true)
  | p :: ps, acc => if (valIn lo hi p).2 = true then allGo lo hi ps (acc ++ [(valIn lo hi p).1]) else ([], false)
theorem rdB_at (L : List (List UInt8)) (i : Nat) (h : i < L.length) : rdOf ByteArray.empty (L.map tx) (i : Int) = tx L[i] := by
  unfold rdOf
  rw [Int.toNat_natCast, List.getD_eq_getElem?_getD, List.getElem?_map, List.getElem?_eq_getElem h]
  rfl
theorem readAll_l0 (lo hi : Int) (L : List (List UInt8)) (hL : L.length ≤ 2000000) (hp : ∀ p ∈ L, p.length ≤ 281474976710656) : ∀ (d k i : Nat) (acc : List Int), i + d = L.length → d < k → acc.length ≤ i → impl_readAll.l0 k lo hi acc (L.map tx) (L.length : Int) i = some (allGo lo hi (L.drop i) acc) := by
  intro d
  induction d with
  | zero =>
    intro k i acc hi2 hk ha
    obtain ⟨k, rfl⟩ : ∃ m, k = m + 1 := ⟨k - 1, by omega⟩
    simp only [impl_readAll.l0]
    rw [if_neg (by omega), List.drop_of_length_le (by omega)]
    rfl
  | succ d ih =>
    intro k i acc hi2 hk ha
    obtain ⟨k, rfl⟩ : ∃ m, k = m + 1 := ⟨k - 1, by omega⟩
    have hlt : i < L.length := by omega
    simp only [impl_readAll.l0]
    rw [if_pos (by omega), if_pos (by omega), List.length_map, if_pos (by omega), rdB_at L i hlt, implReadIn_is _ lo hi (hp _ (List.getElem_mem hlt)), bind_some_, List.drop_eq_getElem_cons hlt]
    simp only [allGo]
    by_cases h : (valIn lo hi L[i]).2 = true
    · rw [if_pos h, if_pos h, if_pos (by omega), w64s i (by omega)]
      exact ih k (i + 1) _ (by omega) (by omega) (by rw [List.length_append, List.length_singleton]; omega)
    · rw [if_neg h, if_neg h]
theorem readAll_is (lo hi : Int) (c : UInt8) (s : List UInt8) (hs : s.length ≤ 1048576) (k : Nat) (hk : s.length + 10 < k) : impl_readAll.f k (tx s) (tx [c]) lo hi = some (allGo lo hi (splitL c s) []) := by
  have hl := splitL_len c s
  unfold impl_readAll.f
  rw [split_is c s (by omega), bind_some_, List.length_map]
  exact readAll_l0 lo hi (splitL c s) (by omega) (fun p hp => by have := hl.2 p hp; omega) (splitL c s).length k 0 [] (by omega) (by omega) (by simp)
theorem allGo_true (lo hi : Int) : ∀ (ps : List (List UInt8)) (acc : List Int), (allGo lo hi ps acc).2 = true → ∃ l, allGo lo hi ps acc = (acc ++ l, true) ∧ l.map Lib.itoa = ps ∧ ∀ v ∈ l, (-9223372036854775808 ≤ v ∧ v ≤ 9223372036854775807) ∧ lo ≤ v ∧ v ≤ hi
  | [], acc, _ => ⟨[], by rw [List.append_nil]; rfl, rfl, by simp⟩
  | p :: ps, acc, h => by
    simp only [allGo] at h ⊢
    by_cases hv : (valIn lo hi p).2 = true
    · rw [if_pos hv] at h ⊢
      obtain ⟨l, e1, e2, e3⟩ := allGo_true lo hi ps _ h
      have hp := valIn_true hv
      refine ⟨(valIn lo hi p).1 :: l, by rw [e1]; simp, by rw [List.map_cons, e2, hp.1], fun v hm => ?_⟩
      rcases List.mem_cons.mp hm with z | z
      · rw [z]; exact hp.2
      · exact e3 v z
    · rw [if_neg hv] at h
      cases h
theorem allGo_false (lo hi : Int) : ∀ (ps : List (List UInt8)) (acc : List Int), ¬ (allGo lo hi ps acc).2 = true → allGo lo hi ps acc = ([], false)
  | [], acc, h => absurd rfl h
  | p :: ps, acc, h => by
    simp only [allGo] at h ⊢
    by_cases hv : (valIn lo hi p).2 = true
    · rw [if_pos hv] at h ⊢
      exact allGo_false lo hi ps _ h
    · rw [if_neg hv]
theorem allGo_itoa (lo hi : Int) : ∀ (l acc : List Int), (∀ v ∈ l, (-9223372036854775808 ≤ v ∧ v ≤ 9223372036854775807) ∧ lo ≤ v ∧ v ≤ hi) → allGo lo hi (l.map Lib.itoa) acc = (acc ++ l, true)
  | [], acc, _ => by rw [List.append_nil]; rfl
  | v :: l, acc, h => by
    have hv := h v (by simp)
    rw [List.map_cons]
    simp only [allGo]
    rw [valIn_itoa hv.1 hv.2, if_pos rfl]
    dsimp only
    rw [allGo_itoa lo hi l _ (fun z hz => h z (List.mem_cons_of_mem _ hz))]
    simp
theorem jn_map (c : UInt8) (l : List Int) : jn Lib.itoa c l = jn (fun z => z) c (l.map Lib.itoa) := by
  unfold jn
  rw [List.map_map]
  rfl
theorem itoa_no (c : UInt8) (h1 : c.toNat < 48 ∨ 57 < c.toNat) (h2 : c ≠ 45) (n : Int) : c ∉ Lib.itoa n := fun hm => by
  unfold Lib.itoa at hm
  split at hm
  · rcases List.mem_cons.mp hm with e | e
    · exact h2 e
    · have := dec_digits (n.natAbs + 1) n.natAbs (by omega) c e
      omega
  · have := dec_digits (n.toNat + 1) n.toNat (by omega) c hm
    omega
theorem splitL_ints (c : UInt8) (h1 : c.toNat < 48 ∨ 57 < c.toNat) (h2 : c ≠ 45) (l : List Int) (hl : l ≠ []) : splitL c (jn Lib.itoa c l) = l.map Lib.itoa := by
  rw [jn_map]
  refine splitL_of c _ (by simpa using hl) (fun p hp => ?_)
  obtain ⟨v, _, rfl⟩ := List.mem_map.mp hp
  exact itoa_no c h1 h2 v
def allP (c : UInt8) (s : List UInt8) : List Int × Bool := allGo (-1000000000) 1000000000 (splitL c s) []
def B9 (l : List Int) : Prop := ∀ v ∈ l, -1000000000 ≤ v ∧ v ≤ 1000000000
theorem allP_true {c : UInt8} {s : List UInt8} (h : (allP c s).2 = true) : allP c s = ((allP c s).1, true) ∧ jn Lib.itoa c (allP c s).1 = s ∧ (allP c s).1 ≠ [] ∧ B9 (allP c s).1 := by
  unfold allP at h ⊢
  obtain ⟨l, e1, e2, e3⟩ := allGo_true _ _ _ _ h
  rw [e1, List.nil_append]
  refine ⟨rfl, ?_, fun e => ?_, fun v hv => (e3 v hv).2⟩
  · dsimp only
    rw [jn_map, e2, splitL_join]
  · dsimp only at e
    rw [e, List.map_nil] at e2
    exact splitL_ne c s e2.symm
theorem allP_text {c : UInt8} (h1 : c.toNat < 48 ∨ 57 < c.toNat) (h2 : c ≠ 45) {l : List Int} (hl : l ≠ []) (hb : B9 l) : allP c (jn Lib.itoa c l) = (l, true) := by
  unfold allP
  rw [splitL_ints c h1 h2 l hl, allGo_itoa _ _ l [] (fun v hv => by have := hb v hv; omega), List.nil_append]

/- The head with a text, as the program reads it. -/
def zH : List S77 × List Int × List Int × Int × Int × Bool := ([], [], [], 0, 0, false)
def GoodH (r : List S77 × List Int × List Int × Int × Int × Bool) (s : List UInt8) : Prop :=
  (r = zH ∨ ∃ cs fc st x y, r = (cs, fc, st, x, y, true) ∧ hdOk cs fc st x y = true ∧ headT cs fc st x y = s) ∧ ∀ cs fc st x y, hdOk cs fc st x y = true → headT cs fc st x y = s → r = (cs, fc, st, x, y, true)
theorem goodH_eq {r q : List S77 × List Int × List Int × Int × Int × Bool} {s : List UInt8} (h : GoodH r s) (g : GoodH q s) : r = q := by
  rcases h.1 with e | ⟨cs, fc, st, x, y, e, h1, h2⟩
  · rcases g.1 with f | ⟨cs, fc, st, x, y, f, h1, h2⟩
    · rw [e, f]
    · have := h.2 cs fc st x y h1 h2
      rw [e] at this
      exact absurd (congrArg (fun z => z.2.2.2.2.2) this) (by simp [zH])
  · rw [e, g.2 cs fc st x y h1 h2]
def someP (s : List UInt8) : List Int × Bool := if s = [] then ([], true) else allP 44 s
theorem someP_true {s : List UInt8} (h : (someP s).2 = true) : jn Lib.itoa 44 (someP s).1 = s := by
  unfold someP at h ⊢
  split
  · rename_i e
    rw [e]
    rfl
  · rename_i e
    rw [if_neg e] at h
    exact (allP_true h).2.1
theorem jn_itoa_ne {c : UInt8} {l : List Int} (hl : l ≠ []) : jn Lib.itoa c l ≠ [] := by
  cases l with
  | nil => exact absurd rfl hl
  | cons v l =>
    rw [jn_cons]
    intro e
    have := congrArg List.length e
    rw [List.length_append, List.length_nil] at this
    have h2 : Lib.itoa v ≠ [] := by
      unfold Lib.itoa
      split
      · simp
      · exact dec_ne _
    exact h2 (List.length_eq_zero_iff.mp (by omega))
theorem someP_text {l : List Int} (hb : B9 l) : someP (jn Lib.itoa 44 l) = (l, true) := by
  unfold someP
  by_cases h : l = []
  · subst h
    rw [if_pos (jn_nil _ _)]
  · rw [if_neg (jn_itoa_ne h)]
    exact allP_text (by decide) (by decide) h hb
theorem readSome_is (s : List UInt8) (hs : s.length ≤ 1048576) (k : Nat) (hk : s.length + 10 < k) : impl_readSome.f k (tx s) = some (someP s) := by
  unfold impl_readSome.f someP
  rw [tx_toList]
  by_cases h : s = []
  · rw [if_pos h, if_pos h]
  · rw [if_neg h, if_neg h, lit1, readAll_is _ _ 44 s hs k hk, bind_some_]
    rfl
def cutsGo : List (List UInt8) → List S77 → Option (List S77)
  | [], acc => some acc
  | p :: ps, acc => if (allP 47 p).2 = true then (if (allP 47 p).1.length = 2 then cutsGo ps (acc ++ [⟨rd (allP 47 p).1 0, rd (allP 47 p).1 1⟩]) else none) else none
theorem two_of {l : List Int} (h : l.length = 2) : l = [rd l 0, rd l 1] := by
  match l, h with
  | [a, b], _ => rfl
theorem cutsGo_some : ∀ (ps : List (List UInt8)) (acc q : List S77), cutsGo ps acc = some q → ∃ l, q = acc ++ l ∧ ps = l.map cutT
  | [], acc, q, h => ⟨[], by rw [List.append_nil]; exact (Option.some.inj h).symm, rfl⟩
  | p :: ps, acc, q, h => by
    simp only [cutsGo] at h
    split at h
    · rename_i h1
      split at h
      · rename_i h2
        obtain ⟨l, e1, e2⟩ := cutsGo_some ps _ q h
        have h3 := (allP_true h1).2.1
        rw [two_of h2, jn_two, jn_one] at h3
        refine ⟨⟨rd (allP 47 p).1 0, rd (allP 47 p).1 1⟩ :: l, by rw [e1]; simp, ?_⟩
        rw [List.map_cons, ← e2]
        congr 1
        refine h3.symm.trans ?_
        unfold cutT
        simp
      · cases h
    · cases h
theorem cutT_two (c : S77) : cutT c = jn Lib.itoa 47 [c.f0, c.f1] := by
  rw [jn_two, jn_one]
  unfold cutT
  simp
theorem cutsGo_text : ∀ (l acc : List S77), (∀ c ∈ l, (1 ≤ c.f0 ∧ c.f0 ≤ 100) ∧ 1 ≤ c.f1 ∧ c.f1 ≤ 1000000) → cutsGo (l.map cutT) acc = some (acc ++ l)
  | [], acc, _ => by rw [List.append_nil]; rfl
  | c :: l, acc, h => by
    have hc := h c (by simp)
    have e : allP 47 (cutT c) = ([c.f0, c.f1], true) := by
      rw [cutT_two]
      exact allP_text (by decide) (by decide) (by simp) (fun v hv => by
        rcases List.mem_cons.mp hv with z | z
        · rw [z]; omega
        · rw [List.mem_singleton.mp z]; omega)
    rw [List.map_cons]
    simp only [cutsGo]
    rw [e]
    dsimp only
    rw [if_pos rfl, if_pos (show [c.f0, c.f1].length = 2 from rfl)]
    have := cutsGo_text l (acc ++ [c]) (fun z hz => h z (List.mem_cons_of_mem _ hz))
    rw [List.append_assoc, List.singleton_append] at this
    exact this
def endH (p1 p2 p3 : List UInt8) (cs : List S77) : List S77 × List Int × List Int × Int × Int × Bool :=
  if (someP p1).2 = true then (if (someP p2).2 = true then (if (someP p3).2 = true then (if (someP p3).1.length = 2 then (if hdOk cs (someP p1).1 (someP p2).1 (rd (someP p3).1 0) (rd (someP p3).1 1) = true then (cs, (someP p1).1, (someP p2).1, rd (someP p3).1 0, rd (someP p3).1 1, true) else zH) else zH) else zH) else zH) else zH
theorem jn_itoa_len (c : UInt8) : ∀ l : List Int, l.length ≤ (jn Lib.itoa c l).length + 1
  | [] => by simp
  | v :: l => by
    have h2 : Lib.itoa v ≠ [] := by
      unfold Lib.itoa
      split
      · simp
      · exact dec_ne _
    have h1 : 1 ≤ (Lib.itoa v).length := by
      cases hq : Lib.itoa v with
      | nil => exact absurd hq h2
      | cons a t => simp
    cases l with
    | nil => simp
    | cons w l =>
      have := jn_itoa_len c (w :: l)
      rw [jn_two]
      simp only [List.length_append, List.length_cons] at this ⊢
      omega
theorem someP_len (s : List UInt8) : (someP s).1.length ≤ s.length + 1 := by
  by_cases h : (someP s).2 = true
  · have := someP_true h
    have h2 := jn_itoa_len 44 (someP s).1
    rw [this] at h2
    exact h2
  · unfold someP at h ⊢
    split
    · simp
    · rename_i e
      rw [if_neg e] at h
      have : allP 44 s = ([], false) := allGo_false _ _ _ _ h
      rw [this]
      simp
theorem implRH_end (k : Nat) (p0 p1 p2 p3 : List UInt8) (W : List ByteArray) (cs : List S77) (h1 : p1.length ≤ 1048573) (h2 : p2.length ≤ 1048573) (h3 : p3.length ≤ 1048573) (hc : cs.length ≤ 1048576) (hk : 5000000 < k) : impl_ReadHead.l0 k ([p0, p1, p2, p3].map tx) W (W.length : Int) (W.length : Int) cs 0 0 = some (endH p1 p2 p3 cs) := by
  obtain ⟨k, rfl⟩ : ∃ m, k = m + 2 := ⟨k - 2, by omega⟩
  have l1 := someP_len p1
  have l2 := someP_len p2
  have l3 := someP_len p3
  simp only [impl_ReadHead.l0]
  have r1 := rdB_at [p0, p1, p2, p3] 1 (by simp)
  have r2 := rdB_at [p0, p1, p2, p3] 2 (by simp)
  have r3 := rdB_at [p0, p1, p2, p3] 3 (by simp)
  rw [show ((1 : Nat) : Int) = 1 from rfl] at r1
  rw [show ((2 : Nat) : Int) = 2 from rfl] at r2
  rw [show ((3 : Nat) : Int) = 3 from rfl] at r3
  have hlen : (([p0, p1, p2, p3].map tx).length : Int) = 4 := rfl
  rw [if_neg (by omega), hlen, if_pos (by omega), r1, readSome_is _ (show ([p0, p1, p2, p3][1]).length ≤ 1048576 from by show p1.length ≤ _; omega) _ (by show p1.length + 10 < _; omega), bind_some_, if_pos (by omega), r2, readSome_is _ (show ([p0, p1, p2, p3][2]).length ≤ 1048576 from by show p2.length ≤ _; omega) _ (by show p2.length + 10 < _; omega), bind_some_, if_pos (by omega), r3, readSome_is _ (show ([p0, p1, p2, p3][3]).length ≤ 1048576 from by show p3.length ≤ _; omega) _ (by show p3.length + 10 < _; omega), bind_some_]
  show (if (someP p1).2 = true then (if (someP p2).2 = true then (if (someP p3).2 = true then impl_ReadHead.j1 (k + 1) (someP p1).1 (someP p2).1 (someP p3).1 (((someP p3).1.length : Int) != 2) cs 0 0 else impl_ReadHead.j1 (k + 1) (someP p1).1 (someP p2).1 (someP p3).1 true cs 0 0) else impl_ReadHead.j1 (k + 1) (someP p1).1 (someP p2).1 (someP p3).1 true cs 0 0) else impl_ReadHead.j1 (k + 1) (someP p1).1 (someP p2).1 (someP p3).1 true cs 0 0) = some (endH p1 p2 p3 cs)
  unfold endH
  simp only [impl_ReadHead.j1]
  by_cases c1 : (someP p1).2 = true
  · rw [if_pos c1, if_pos c1]
    by_cases c2 : (someP p2).2 = true
    · rw [if_pos c2, if_pos c2]
      by_cases c3 : (someP p3).2 = true
      · rw [if_pos c3, if_pos c3]
        by_cases c4 : (someP p3).1.length = 2
        · rw [if_pos c4, if_neg (by rw [c4]; decide), if_pos (by omega), if_pos (by omega), implHead_is k cs _ _ _ _ hc (by omega) (by omega) (by omega), bind_some_]
          split <;> rfl
        · rw [if_neg c4, if_pos (by simp; omega)]
          rfl
      · rw [if_neg c3, if_neg c3, if_pos trivial]
        rfl
    · rw [if_neg c2, if_neg c2, if_pos trivial]
      rfl
  · rw [if_neg c1, if_neg c1, if_pos trivial]
    rfl
theorem implRH_l0 (p0 p1 p2 p3 : List UInt8) (h1 : p1.length ≤ 1048573) (h2 : p2.length ≤ 1048573) (h3 : p3.length ≤ 1048573) (L : List (List UInt8)) (hL : L.length ≤ 1048576) (hp : ∀ p ∈ L, p.length ≤ 1048576) (F : Nat) (hF : 6000000 ≤ F) : ∀ (d k i : Nat) (acc : List S77), i + d = L.length → d + F < k → acc.length ≤ i → impl_ReadHead.l0 k ([p0, p1, p2, p3].map tx) (L.map tx) (L.length : Int) i acc 0 0 = some (match cutsGo (L.drop i) acc with | none => zH | some cs => endH p1 p2 p3 cs) := by
  intro d
  induction d with
  | zero =>
    intro k i acc hi hk ha
    have := implRH_end k p0 p1 p2 p3 (L.map tx) acc h1 h2 h3 (by omega) (by omega)
    rw [List.length_map] at this
    rw [show i = L.length by omega, this, List.drop_of_length_le (Nat.le_refl _)]
    rfl
  | succ d ih =>
    intro k i acc hi hk ha
    obtain ⟨k, rfl⟩ : ∃ m, k = m + 1 := ⟨k - 1, by omega⟩
    have hlt : i < L.length := by omega
    have hpl := hp _ (List.getElem_mem hlt)
    simp only [impl_ReadHead.l0]
    rw [if_pos (by omega), if_pos (by omega), List.length_map, if_pos (by omega), rdB_at L i hlt, lit1, readAll_is _ _ 47 _ hpl k (by omega), bind_some_, List.drop_eq_getElem_cons hlt]
    simp only [cutsGo]
    rw [show allGo (-1000000000) 1000000000 (splitL 47 L[i]) [] = allP 47 L[i] from rfl]
    by_cases c1 : (allP 47 L[i]).2 = true
    · rw [if_pos c1, if_pos c1]
      by_cases c2 : (allP 47 L[i]).1.length = 2
      · rw [if_pos (by omega), if_pos c2, if_pos (by omega), if_pos (by omega), if_pos (by omega), w64s i (by omega)]
        exact ih k (i + 1) _ (by omega) (by omega) (by rw [List.length_append, List.length_singleton]; omega)
      · rw [if_neg (by omega), if_neg c2]
        rfl
    · rw [if_neg c1, if_neg c1]
      rfl
theorem four_of {α : Type} {l : List α} (h : l.length = 4) : ∃ a b c d, l = [a, b, c, d] := by
  match l, h with
  | [a, b, c, d], _ => exact ⟨a, b, c, d, rfl⟩
theorem cutT_no (c : UInt8) (h1 : c.toNat < 48 ∨ 57 < c.toNat) (h2 : c ≠ 45) (h3 : c ≠ 47) (x : S77) : c ∉ cutT x := fun hm => by
  unfold cutT at hm
  rcases List.mem_append.mp hm with e | e
  · rcases List.mem_append.mp e with e | e
    · exact itoa_no c h1 h2 _ e
    · exact h3 (List.mem_singleton.mp e)
  · exact itoa_no c h1 h2 _ e
theorem headT_parts (cs : List S77) (fc st : List Int) (x y : Int) : splitL 124 (headT cs fc st x y) = [jn cutT 44 cs, jn Lib.itoa 44 fc, jn Lib.itoa 44 st, jn Lib.itoa 44 [x, y]] := by
  unfold headT
  refine splitL_of 124 _ (by simp) (fun p hp => ?_)
  have hi : ∀ l : List Int, (124 : UInt8) ∉ jn Lib.itoa 44 l := fun l => jn_no Lib.itoa 44 124 (by decide) l (fun v _ => itoa_no 124 (by decide) (by decide) v)
  rcases List.mem_cons.mp hp with e | e
  · rw [e]; exact jn_no cutT 44 124 (by decide) cs (fun v _ => cutT_no 124 (by decide) (by decide) (by decide) v)
  · rcases List.mem_cons.mp e with e | e
    · rw [e]; exact hi fc
    · rcases List.mem_cons.mp e with e | e
      · rw [e]; exact hi st
      · rw [List.mem_singleton.mp e]; exact hi _
theorem cuts_split {cs : List S77} (h : cs ≠ []) : splitL 44 (jn cutT 44 cs) = cs.map cutT := by
  have e : jn cutT 44 cs = jn (fun z => z) 44 (cs.map cutT) := by
    unfold jn
    rw [List.map_map]
    rfl
  rw [e]
  refine splitL_of 44 _ (by simpa using h) (fun p hp => ?_)
  obtain ⟨v, _, rfl⟩ := List.mem_map.mp hp
  exact cutT_no 44 (by decide) (by decide) (by decide) v
theorem B9_of {l : List Int} {m : Int} (hm : m ≤ 1000000000) (h : ∀ v ∈ l, 0 ≤ v ∧ v ≤ m) : B9 l := fun v hv => by have := h v hv; omega
theorem implReadHead_good (k : Nat) (s : List UInt8) (hs : s.length ≤ 1048576) (hk : 10000000 < k) : ∃ r, impl_ReadHead.f k (tx s) = some r ∧ GoodH r s := by
  have hl := splitL_len 124 s
  unfold impl_ReadHead.f
  rw [lit1, split_is 124 s (by omega), bind_some_, List.length_map]
  by_cases h4 : (splitL 124 s).length = 4
  · obtain ⟨p0, p1, p2, p3, e⟩ := four_of h4
    have hj := splitL_join 124 s
    have hge := jn_ge 124 (splitL 124 s)
    rw [hj, h4] at hge
    rw [e] at hge
    have g0 := hge p0 (by simp)
    have g1 := hge p1 (by simp)
    have g2 := hge p2 (by simp)
    have g3 := hge p3 (by simp)
    have hl2 := splitL_len 44 p0
    have r0 := rdB_at [p0, p1, p2, p3] 0 (by simp)
    rw [show ((0 : Nat) : Int) = 0 from rfl, show [p0, p1, p2, p3][0] = p0 from rfl] at r0
    have hb := implRH_l0 p0 p1 p2 p3 (by omega) (by omega) (by omega) (splitL 44 p0) (by omega) (fun p hp => by have := hl2.2 p hp; omega) 6000000 (by omega) (splitL 44 p0).length k 0 [] (by omega) (by omega) (by simp)
    rw [List.drop_zero, show ((0 : Nat) : Int) = 0 from rfl] at hb
    rw [if_pos (by omega), if_pos (by omega), e, r0, lit1, split_is 44 p0 (by omega), bind_some_, List.length_map, hb]
    refine ⟨_, rfl, ?_, fun cs fc st x y hh ht => ?_⟩
    · cases hc : cutsGo (splitL 44 p0) [] with
      | none => exact Or.inl rfl
      | some cs =>
        dsimp only
        obtain ⟨l, e1, e2⟩ := cutsGo_some _ _ _ hc
        rw [List.nil_append] at e1
        subst e1
        have ep0 : jn cutT 44 cs = p0 := by
          have := splitL_join 44 p0
          rw [e2] at this
          rw [← this]
          unfold jn
          rw [List.map_map]
          rfl
        unfold endH
        by_cases c1 : (someP p1).2 = true
        · rw [if_pos c1]
          by_cases c2 : (someP p2).2 = true
          · rw [if_pos c2]
            by_cases c3 : (someP p3).2 = true
            · rw [if_pos c3]
              by_cases c4 : (someP p3).1.length = 2
              · rw [if_pos c4]
                by_cases c5 : hdOk cs (someP p1).1 (someP p2).1 (rd (someP p3).1 0) (rd (someP p3).1 1) = true
                · rw [if_pos c5]
                  refine Or.inr ⟨_, _, _, _, _, rfl, c5, ?_⟩
                  have t3 := someP_true c3
                  rw [two_of c4] at t3
                  unfold headT
                  rw [ep0, someP_true c1, someP_true c2, t3, ← e, hj]
                · rw [if_neg c5]; exact Or.inl rfl
              · rw [if_neg c4]; exact Or.inl rfl
            · rw [if_neg c3]; exact Or.inl rfl
          · rw [if_neg c2]; exact Or.inl rfl
        · rw [if_neg c1]; exact Or.inl rfl
    · have hv := hdOk_vals hh
      have hp := headT_parts cs fc st x y
      rw [ht, e] at hp
      simp only [List.cons.injEq, and_true] at hp
      obtain ⟨a0, a1, a2, a3⟩ := hp
      have b3 : B9 [x, y] := fun v hv2 => by
        have := hv.xv
        have := hv.yv
        rcases List.mem_cons.mp hv2 with z | z
        · rw [z]; omega
        · rw [List.mem_singleton.mp z]; omega
      rw [a0, cuts_split (by intro z; have := hv.cn; rw [z] at this; simp at this), cutsGo_text cs [] hv.cv, List.nil_append]
      dsimp only
      unfold endH
      rw [a1, a2, a3, someP_text (B9_of (by omega) hv.fv), someP_text (B9_of (by omega) hv.sv), someP_text b3]
      dsimp only
      rw [if_pos rfl, if_pos rfl, if_pos rfl, if_pos (show [x, y].length = 2 from rfl), show rd [x, y] 0 = x from rfl, show rd [x, y] 1 = y from rfl, if_pos hh]
  · rw [if_neg (by omega)]
    refine ⟨_, rfl, Or.inl rfl, fun cs fc st x y hh ht => ?_⟩
    have := headT_parts cs fc st x y
    rw [ht] at this
    rw [this] at h4
    exact absurd rfl h4

/- What the numbers of a text are at most. -/
theorem wrap_rng (x : Int) : -9223372036854775808 ≤ wrap64 x ∧ wrap64 x ≤ 9223372036854775807 := by unfold wrap64; omega
theorem nums_i64 : ∀ (F : Nat) (s : List UInt8) (out : List Int), I64s out → I64s (nums F s out)
  | 0, s, out, h => h
  | F + 1, [], out, h => h
  | F + 1, c :: r, out, h => by
    have happ : ∀ x, I64s (out ++ [wrap64 x]) := fun x v hv => by
      rcases List.mem_append.mp hv with e | e
      · exact h v e
      · rw [List.mem_singleton.mp e]; exact wrap_rng x
    simp only [nums]
    split
    · exact nums_i64 F _ _ (happ _)
    · split
      · exact nums_i64 F _ _ (happ _)
      · exact nums_i64 F r out h
theorem nums_len : ∀ (F : Nat) (s : List UInt8) (out : List Int), (nums F s out).length ≤ out.length + s.length
  | 0, s, out => by simp [nums]
  | F + 1, [], out => by simp [nums]
  | F + 1, c :: r, out => by
    have h8 := takeD_len 8 r 0
    simp only [nums]
    split
    · rename_i ht
      have hd : isDg c = true := by
        unfold tok at ht
        split at ht
        · assumption
        · split at ht
          · split at ht
            · omega
            · split at ht <;> omega
          · omega
      have e : takeD 8 (c :: r) 0 = takeD 7 r (wrap64 (wrap64 (10 * 0) + (((c.toNat : Int) - 48) % 256))) := by
        simp only [takeD]
        rw [if_pos hd]
      have h7 := takeD_len 7 r (wrap64 (wrap64 (10 * 0) + (((c.toNat : Int) - 48) % 256)))
      have := nums_len F (takeD 8 (c :: r) 0).2 (out ++ [wrap64 (1 * (takeD 8 (c :: r) 0).1)])
      rw [List.length_append, List.length_singleton] at this
      rw [e] at this
      rw [List.length_cons, e]
      omega
    · split
      · have := nums_len F (takeD 8 r 0).2 (out ++ [wrap64 (-1 * (takeD 8 r 0).1)])
        rw [List.length_append, List.length_singleton] at this
        rw [List.length_cons]
        omega
      · have := nums_len F r out
        rw [List.length_cons]
        omega
theorem numsOf_64 (s : List UInt8) : I64s (numsOf s []) ∧ (numsOf s []).length ≤ s.length := by
  have h := nums_len (s.length + 1) s []
  exact ⟨nums_i64 _ s [] (fun v hv => by simp at hv), by unfold numsOf; simpa using h⟩
theorem numsOf_list (c : UInt8) (h1 : isDg c = false) (h2 : c ≠ 45) (l : List Int) (h : ∀ v ∈ l, -99999999 ≤ v ∧ v ≤ 99999999) : numsOf (jn Lib.itoa c l) [] = l := by
  have := numsOf_jn c h1 h2 [] trivial l [] h
  rw [List.append_nil, List.nil_append, numsOf_nil] at this
  exact this

/- A byte of a text. -/
theorem bt_at (l : List UInt8) (i : Nat) (h : i < l.length) : bt (tx l) (i : Int) = (l[i].toNat : Int) := by
  unfold bt
  have h2 : ((i : Int)).toNat < (tx l).size := by rw [tx_size, Int.toNat_natCast]; exact h
  rw [dif_pos h2]
  rfl

/- The numbers of a text, as the reference's loops read them. -/
theorem specNums_l1 (s : List UInt8) (hs : s.length ≤ 1048576) (out : List Int) (ho : out.length ≤ 2000000) (sg : Int) : ∀ (n k i : Nat) (a : Int), n ≤ 8 → i ≤ s.length → n + 2 < k →
    ∃ j q : Nat, i ≤ j ∧ j ≤ s.length ∧ k ≤ q + n + 1 ∧ ((0 < n ∧ ∃ c r, s.drop i = c :: r ∧ isDg c = true) → i < j) ∧ (takeD n (s.drop i) a).2 = s.drop j ∧ spec_l02Numbers.l1 k (tx s) out i sg a ((8 - n : Nat) : Int) = spec_l02Numbers.l0 q (tx s) (out ++ [wrap64 (sg * (takeD n (s.drop i) a).1)]) (j : Int) := by
  intro n
  induction n with
  | zero =>
    intro k i a h8 hi hk
    obtain ⟨k, rfl⟩ : ∃ m, k = m + 1 := ⟨k - 1, by omega⟩
    refine ⟨i, k, Nat.le_refl _, hi, by omega, fun h => by omega, rfl, ?_⟩
    simp only [spec_l02Numbers.l1]
    rw [if_neg (by omega), if_pos (by omega)]
    rfl
  | succ n ih =>
    intro k i a h8 hi hk
    obtain ⟨k, rfl⟩ : ∃ m, k = m + 1 := ⟨k - 1, by omega⟩
    simp only [spec_l02Numbers.l1]
    rw [if_pos (by omega), tx_size]
    by_cases hlt : i < s.length
    · rw [if_pos (by omega), if_pos (by omega), bt_at s i hlt, List.drop_eq_getElem_cons hlt]
      simp only [takeD]
      by_cases hd : isDg s[i] = true
      · have hd2 := of_decide_eq_true hd
        obtain ⟨j, q, e1, e2, e3, _, e5, e6⟩ := ih k (i + 1) (wrap64 (wrap64 (10 * a) + (((s[i].toNat : Nat) : Int) - 48) % 256)) (by omega) (by omega) (by omega)
        refine ⟨j, q, by omega, e2, by omega, fun _ => by omega, ?_, ?_⟩
        · rw [if_pos hd]
          exact e5
        · rw [if_pos (by omega), if_pos (by omega), if_pos hd, w64s i (by omega), w64 (((8 - (n + 1) : Nat) : Int) + 1) (by omega) (by omega), show ((8 - (n + 1) : Nat) : Int) + 1 = ((8 - n : Nat) : Int) by omega]
          exact e6
      · refine ⟨i, k, Nat.le_refl _, hi, by omega, fun h => ?_, ?_, ?_⟩
        · obtain ⟨_, c, r, e, h2⟩ := h
          simp only [List.cons.injEq] at e
          rw [e.1] at hd
          exact absurd h2 hd
        · rw [if_neg hd, ← List.drop_eq_getElem_cons hlt]
        · rw [if_neg hd]
          have hd2 : ¬ (48 ≤ s[i].toNat ∧ s[i].toNat ≤ 57) := fun z => hd (decide_eq_true z)
          by_cases h1 : ((s[i].toNat : Nat) : Int) ≥ 48
          · rw [if_pos h1, if_neg (by omega), if_pos (by omega)]
          · rw [if_neg h1, if_pos (by omega)]
    · refine ⟨i, k, Nat.le_refl _, hi, by omega, fun h => ?_, ?_, ?_⟩
      · obtain ⟨_, c, r, e, _⟩ := h
        rw [List.drop_of_length_le (by omega)] at e
        cases e
      · rw [List.drop_of_length_le (by omega)]
        rfl
      · rw [if_neg (by omega), if_pos (by omega), List.drop_of_length_le (by omega)]
        rfl
theorem specNums_l0 (s : List UInt8) (hs : s.length ≤ 1048576) : ∀ (F k i : Nat) (out : List Int), i ≤ s.length → s.length - i < F → 20 * (s.length - i) + 200 < k → out.length ≤ i → spec_l02Numbers.l0 k (tx s) out i = some (nums F (s.drop i) out) := by
  intro F
  induction F with
  | zero => intro k i out _ h; omega
  | succ F ih =>
    intro k i out hi hF hk ho
    obtain ⟨k, rfl⟩ : ∃ m, k = m + 4 := ⟨k - 4, by omega⟩
    by_cases hlt : i < s.length
    · have hdr := List.drop_eq_getElem_cons hlt
      rw [hdr]
      simp only [spec_l02Numbers.l0, nums]
      rw [tx_size, if_pos (by omega), if_pos (by omega), bt_at s i hlt]
      have hdig : isDg s[i] = true → spec_l02Numbers.j3 (k + 1) (tx s) out i 1 = some (nums F (takeD 8 (s[i] :: s.drop (i + 1)) 0).2 (out ++ [wrap64 (1 * (takeD 8 (s[i] :: s.drop (i + 1)) 0).1)])) := fun hd => by
        simp only [spec_l02Numbers.j3]
        obtain ⟨j, q, e1, e2, e3, e4, e5, e6⟩ := specNums_l1 s hs out (by omega) 1 8 k i 0 (by omega) (by omega) (by omega)
        have hj := e4 ⟨by omega, _, _, hdr, hd⟩
        rw [hdr] at e5 e6
        rw [show ((8 - 8 : Nat) : Int) = 0 from rfl] at e6
        rw [e6, e5]
        exact ih q j _ e2 (by omega) (by omega) (by rw [List.length_append, List.length_singleton]; omega)
      have hnext : ∀ q, 20 * (s.length - (i + 1)) + 200 < q → spec_l02Numbers.l0 q (tx s) out (wrap64 ((i : Int) + 1)) = some (nums F (s.drop (i + 1)) out) := fun q hq => by
        rw [w64s i (by omega)]
        exact ih q (i + 1) out (by omega) (by omega) hq (by omega)
      by_cases h45 : ((s[i].toNat : Nat) : Int) = 45
      · have e45 : s[i] = 45 := UInt8.toNat_inj.mp (by rw [show (45 : UInt8).toNat = 45 from rfl]; omega)
        have hnd : isDg s[i] = false := by rw [e45]; rfl
        rw [if_pos h45]
        simp only [spec_l02Numbers.j1]
        rw [if_pos (by omega), tx_size, if_pos (by omega), bt_at s i hlt, if_pos (by omega)]
        simp only [spec_l02Numbers.j2]
        rw [if_pos trivial, if_neg (by omega), tx_size, w64s i (by omega)]
        have ht0 : tok s[i] [] = 0 := by
          unfold tok
          rw [if_neg (by rw [hnd]; simp), if_pos e45]
        have ht1 : ∀ (d : UInt8) (r : List UInt8), tok s[i] (d :: r) = if isDg d = true then -1 else 0 := fun d r => by
          unfold tok
          rw [if_neg (by rw [hnd]; simp), if_pos e45]
        by_cases hend : i + 1 = s.length
        · rw [if_pos (by omega)]
          have := hnext (k + 1) (by omega)
          rw [w64s i (by omega)] at this
          rw [this, List.drop_of_length_le (by omega), ht0, if_neg (by omega), if_neg (by omega)]
        · have hlt2 : i + 1 < s.length := by omega
          rw [if_neg (by omega), if_pos (by omega), if_pos (by omega), bt_at s (i + 1) hlt2]
          have ht := ht1 s[i + 1] (s.drop (i + 1 + 1))
          have hskip : isDg s[i + 1] = false → spec_l02Numbers.l0 (k + 1) (tx s) out ((i + 1 : Nat) : Int) = some (if tok s[i] (s.drop (i + 1)) = 1 then nums F (takeD 8 (s[i] :: s.drop (i + 1)) 0).2 (out ++ [wrap64 (1 * (takeD 8 (s[i] :: s.drop (i + 1)) 0).1)]) else if tok s[i] (s.drop (i + 1)) = -1 then nums F (takeD 8 (s.drop (i + 1)) 0).2 (out ++ [wrap64 (-1 * (takeD 8 (s.drop (i + 1)) 0).1)]) else nums F (s.drop (i + 1)) out) := fun hz => by
            have := hnext (k + 1) (by omega)
            rw [w64s i (by omega)] at this
            rw [List.drop_eq_getElem_cons hlt2, ht, hz, if_neg (show ¬ (false = true) by simp), if_neg (by omega), if_neg (by omega), ← List.drop_eq_getElem_cons hlt2]
            exact this
          by_cases h1 : ((s[i + 1].toNat : Nat) : Int) < 48
          · rw [if_pos h1]
            exact hskip (by unfold isDg; exact decide_eq_false (by omega))
          · rw [if_neg h1]
            by_cases h2 : ((s[i + 1].toNat : Nat) : Int) > 57
            · rw [if_pos h2]
              exact hskip (by unfold isDg; exact decide_eq_false (by omega))
            · rw [if_neg h2]
              have hd : isDg s[i + 1] = true := by unfold isDg; exact decide_eq_true (by omega)
              simp only [spec_l02Numbers.j3]
              obtain ⟨j, q, e1, e2, e3, e4, e5, e6⟩ := specNums_l1 s hs out (by omega) (-1) 8 k (i + 1) 0 (by omega) (by omega) (by omega)
              have hj := e4 ⟨by omega, _, _, List.drop_eq_getElem_cons hlt2, hd⟩
              rw [show ((8 - 8 : Nat) : Int) = 0 from rfl] at e6
              rw [e6]
              have hk1 : tok s[i] (s.drop (i + 1)) = -1 := by rw [List.drop_eq_getElem_cons hlt2, ht, hd, if_pos rfl]
              rw [hk1, if_neg (by omega), if_pos rfl, e5]
              exact ih q j _ e2 (by omega) (by omega) (by rw [List.length_append, List.length_singleton]; omega)
      · have n45 : s[i] ≠ 45 := fun e => h45 (by rw [e]; rfl)
        rw [if_neg h45]
        simp only [spec_l02Numbers.j1]
        rw [if_pos (by omega), tx_size, if_pos (by omega), bt_at s i hlt]
        have hskip : isDg s[i] = false → spec_l02Numbers.l0 (k + 1) (tx s) out (wrap64 ((i : Int) + 1)) = some (if tok s[i] (s.drop (i + 1)) = 1 then nums F (takeD 8 (s[i] :: s.drop (i + 1)) 0).2 (out ++ [wrap64 (1 * (takeD 8 (s[i] :: s.drop (i + 1)) 0).1)]) else if tok s[i] (s.drop (i + 1)) = -1 then nums F (takeD 8 (s.drop (i + 1)) 0).2 (out ++ [wrap64 (-1 * (takeD 8 (s.drop (i + 1)) 0).1)]) else nums F (s.drop (i + 1)) out) := fun hz => by
          rw [tok_sep s[i] _ hz n45, if_neg (by omega), if_neg (by omega)]
          exact hnext (k + 1) (by omega)
        by_cases h1 : ((s[i].toNat : Nat) : Int) < 48
        · rw [if_pos h1]
          simp only [spec_l02Numbers.j2]
          rw [if_pos trivial, if_pos (by omega)]
          exact hskip (by unfold isDg; exact decide_eq_false (by omega))
        · rw [if_neg h1]
          simp only [spec_l02Numbers.j2]
          by_cases h2 : ((s[i].toNat : Nat) : Int) > 57
          · rw [decide_eq_true h2, if_pos rfl, if_pos (by omega)]
            exact hskip (by unfold isDg; exact decide_eq_false (by omega))
          · have hd : isDg s[i] = true := by unfold isDg; exact decide_eq_true (by omega)
            rw [decide_eq_false h2, if_neg (by simp), hdig hd]
            have : tok s[i] (s.drop (i + 1)) = 1 := by
              unfold tok
              rw [if_pos hd]
            rw [this, if_pos rfl]
    · rw [List.drop_of_length_le (by omega)]
      simp only [spec_l02Numbers.l0, nums]
      rw [tx_size, if_neg (by omega)]
theorem specNums_is (s : List UInt8) (hs : s.length ≤ 1048576) (k : Nat) (hk : 20 * s.length + 200 < k) : spec_l02Numbers.f k (tx s) = some (numsOf s []) := by
  unfold spec_l02Numbers.f numsOf
  exact specNums_l0 s hs (s.length + 1) k 0 [] (by omega) (by omega) (by omega) (by simp)

/- A text in parts, as the reference splits it. -/
theorem drop_cut (s : List UInt8) (f i : Nat) (hf : f ≤ i) (h : i < s.length) : s.drop f = (s.drop f).take (i - f) ++ s[i] :: s.drop (i + 1) := by
  have h1 := List.take_append_drop (i - f) (s.drop f)
  rw [List.drop_drop, show f + (i - f) = i by omega, List.drop_eq_getElem_cons h] at h1
  exact h1.symm
theorem specSplit_l0 (c : UInt8) (s : List UInt8) (hs : s.length ≤ 1048576) : ∀ (d k i f : Nat) (done : List (List UInt8)), i + d = s.length → d + 10 < k → f ≤ i → done.length ≤ i → c ∉ (s.drop f).take (i - f) → spec_l08Split.l0 k (tx s) (c.toNat : Int) (done.map tx) f i = some ((done ++ splitL c (s.drop f)).map tx) := by
  intro d
  induction d with
  | zero =>
    intro k i f done hi hk hf hd hc
    obtain ⟨k, rfl⟩ : ∃ m, k = m + 1 := ⟨k - 1, by omega⟩
    have e : (s.drop f).take (i - f) = s.drop f := List.take_of_length_le (by rw [List.length_drop]; omega)
    rw [e] at hc
    simp only [spec_l08Split.l0]
    rw [tx_size, if_neg (by omega), if_pos (by omega), if_pos (by omega), List.length_map, if_pos (by omega), Int.toNat_natCast, ext_tx, show s.length - f = i - f by omega, e, splitL_one c _ hc, List.map_append]
    rfl
  | succ d ih =>
    intro k i f done hi hk hf hd hc
    obtain ⟨k, rfl⟩ : ∃ m, k = m + 1 := ⟨k - 1, by omega⟩
    have hlt : i < s.length := by omega
    simp only [spec_l08Split.l0]
    rw [tx_size, if_pos (by omega), if_pos (by omega), bt_at s i hlt]
    by_cases h : ((s[i].toNat : Nat) : Int) = (c.toNat : Int)
    · have ec : s[i] = c := UInt8.toNat_inj.mp (by omega)
      rw [if_pos h, if_pos (by omega), if_pos (by omega), if_pos (by omega), List.length_map, if_pos (by omega), w64s i (by omega), Int.toNat_natCast, Int.toNat_natCast, ext_tx]
      have e2 := drop_cut s f i hf hlt
      rw [ec] at e2
      have e3 : splitL c (s.drop f) = (s.drop f).take (i - f) :: splitL c (s.drop (i + 1)) := by
        conv => lhs; rw [e2]
        exact splitL_app c _ _ hc
      have := ih k (i + 1) (i + 1) (done ++ [(s.drop f).take (i - f)]) (by omega) (by omega) (Nat.le_refl _) (by rw [List.length_append, List.length_singleton]; omega) (by rw [Nat.sub_self, List.take_zero]; simp)
      rw [List.map_append] at this
      rw [e3]
      rw [show done ++ (s.drop f).take (i - f) :: splitL c (s.drop (i + 1)) = (done ++ [(s.drop f).take (i - f)]) ++ splitL c (s.drop (i + 1)) by simp]
      exact this
    · rw [if_neg h, w64s i (by omega)]
      refine ih k (i + 1) f done (by omega) (by omega) (by omega) (by omega) ?_
      rw [show i + 1 - f = (i - f) + 1 by omega, List.take_add_one, List.getElem?_drop, show f + (i - f) = i by omega, List.getElem?_eq_getElem hlt]
      intro hm
      rcases List.mem_append.mp hm with z | z
      · exact hc z
      · simp only [Option.toList_some, List.mem_singleton] at z
        exact h (by rw [z])
theorem specSplit_is (c : UInt8) (s : List UInt8) (hs : s.length ≤ 1048576) (k : Nat) (hk : s.length + 10 < k) : spec_l08Split.f k (tx s) (c.toNat : Int) = some ((splitL c s).map tx) := by
  unfold spec_l08Split.f
  have := specSplit_l0 c s hs s.length k 0 0 [] (by omega) hk (Nat.le_refl _) (by simp) (by simp)
  simpa using this

/- The head with a text, as the reference reads it. -/
def flatC : List S77 → List Int
  | [] => []
  | c :: l => c.f0 :: c.f1 :: flatC l
def pairsC : List Int → List S77 → List S77
  | a :: b :: r, acc => pairsC r (acc ++ [⟨a, b⟩])
  | _, acc => acc
theorem pairs_flat : ∀ (l acc : List S77), pairsC (flatC l) acc = acc ++ l
  | [], acc => by rw [List.append_nil]; rfl
  | c :: l, acc => by
    simp only [flatC, pairsC]
    rw [pairs_flat l]
    simp
theorem numsOf_cuts : ∀ (cs : List S77) (out : List Int), (∀ c ∈ cs, (1 ≤ c.f0 ∧ c.f0 ≤ 100) ∧ 1 ≤ c.f1 ∧ c.f1 ≤ 1000000) → numsOf (jn cutT 44 cs) out = out ++ flatC cs
  | [], out, _ => by rw [jn_nil, numsOf_nil, flatC, List.append_nil]
  | [c], out, h => by
    have hc := h c (by simp)
    rw [jn_one]
    unfold cutT
    rw [List.append_assoc, numsOf_int c.f0 (by omega) _ (by exact (rfl : isDg 47 = false)), List.singleton_append, numsOf_skip 47 _ _ (tok_sep 47 _ rfl (by decide))]
    have := numsOf_int c.f1 (by omega) [] trivial (out ++ [c.f0])
    rw [List.append_nil] at this
    rw [this, numsOf_nil]
    simp [flatC]
  | c :: d :: l, out, h => by
    have hc := h c (by simp)
    rw [jn_two]
    unfold cutT
    rw [List.append_assoc, List.append_assoc, numsOf_int c.f0 (by omega) _ (by exact (rfl : isDg 47 = false)), List.singleton_append, numsOf_skip 47 _ _ (tok_sep 47 _ rfl (by decide)), numsOf_int c.f1 (by omega) _ (by exact (rfl : isDg 44 = false)), numsOf_skip 44 _ _ (tok_sep 44 _ rfl (by decide))]
    have := numsOf_cuts (d :: l) ((out ++ [c.f0]) ++ [c.f1]) (fun z hz => h z (List.mem_cons_of_mem _ hz))
    unfold cutT at this
    rw [this]
    simp [flatC]
def chkH (s : List UInt8) (cs : List S77) (fc st : List Int) (x y : Int) : List S77 × List Int × List Int × Int × Int × Bool :=
  if hdOk cs fc st x y = true then (if headT cs fc st x y = s then (cs, fc, st, x, y, true) else zH) else zH
theorem specRH_l0 (s : List UInt8) (cut fc st : List Int) (x y : Int) (hcut : cut.length ≤ 1048576) (h0 : I64s cut) (h1 : I64s fc) (h2 : I64s st) (hf : fc.length ≤ 1048576) (hs : st.length ≤ 1048576) (h4 : -9223372036854775808 ≤ x ∧ x ≤ 9223372036854775807) (h5 : -9223372036854775808 ≤ y ∧ y ≤ 9223372036854775807) (F : Nat) (hF : 6000000 ≤ F) : ∀ (d k i : Nat) (acc : List S77), cut.length - i < d → i ≤ cut.length + 1 → 2 * d + F < k → 2 * acc.length ≤ i → C64 acc →
    spec_ReadHead.l0 k (tx s) cut i acc fc st x y = some (chkH s (pairsC (cut.drop i) acc) fc st x y) := by
  intro d
  induction d with
  | zero => intro k i acc h; omega
  | succ d ih =>
    intro k i acc hd hi hk ha hc
    obtain ⟨k, rfl⟩ : ∃ m, k = m + 1 := ⟨k - 1, by omega⟩
    simp only [spec_ReadHead.l0]
    rw [w64s i (by omega)]
    by_cases hlt : i + 1 < cut.length
    · have e1 := rd_at cut i (by omega)
      have e2 := rd_at cut (i + 1) hlt
      rw [if_pos (by omega), if_pos (by omega), if_pos (by omega), if_pos (by omega), if_pos (by omega), e1, e2, w64 ((i : Int) + 2) (by omega) (by omega), show (i : Int) + 2 = ((i + 2 : Nat) : Int) by omega, List.drop_eq_getElem_cons (show i < cut.length by omega), List.drop_eq_getElem_cons hlt]
      simp only [pairsC]
      refine ih k (i + 2) _ (by omega) (by omega) (by omega) (by rw [List.length_append, List.length_singleton]; omega) (fun c hm => ?_)
      rcases List.mem_append.mp hm with e | e
      · exact hc c e
      · rw [List.mem_singleton.mp e]
        exact ⟨h0 _ (List.getElem_mem _), h0 _ (List.getElem_mem _)⟩
    · have e : pairsC (cut.drop i) acc = acc := by
        by_cases h : i < cut.length
        · rw [List.drop_eq_getElem_cons h, List.drop_of_length_le (by omega)]
          rfl
        · rw [List.drop_of_length_le (by omega)]
          rfl
      rw [if_neg (by omega), e, specIs_is k acc fc st x y (by omega) hf hs (by omega), bind_some_]
      unfold chkH
      by_cases hh : hdOk acc fc st x y = true
      · have ht := specHeadT_l0 acc fc st x y (by omega) hf hs hc h1 h2 h4 h5 acc.length k 0 (by omega) (by omega)
        rw [List.take_zero, jn_nil, show ((0 : Nat) : Int) = 0 from rfl] at ht
        rw [if_pos hh, if_pos hh]
        unfold spec_l08Text.f
        rw [lit0, ht, bind_some_, tx_toList, tx_toList]
        split <;> rfl
      · rw [if_neg hh, if_neg hh]
        rfl
theorem chkH_good {s : List UInt8} {cs : List S77} {fc st : List Int} {x y : Int} (h : ∀ cs2 fc2 st2 x2 y2, hdOk cs2 fc2 st2 x2 y2 = true → headT cs2 fc2 st2 x2 y2 = s → cs = cs2 ∧ fc = fc2 ∧ st = st2 ∧ x = x2 ∧ y = y2) : GoodH (chkH s cs fc st x y) s := by
  refine ⟨?_, fun cs2 fc2 st2 x2 y2 g1 g2 => ?_⟩
  · unfold chkH
    split
    · rename_i h1
      split
      · rename_i h2
        exact Or.inr ⟨_, _, _, _, _, rfl, h1, h2⟩
      · exact Or.inl rfl
    · exact Or.inl rfl
  · obtain ⟨rfl, rfl, rfl, rfl, rfl⟩ := h cs2 fc2 st2 x2 y2 g1 g2
    unfold chkH
    rw [if_pos g1, if_pos g2]
theorem specReadHead_good (k : Nat) (s : List UInt8) (hs : s.length ≤ 1048576) (hk : 40000000 < k) : ∃ r, spec_ReadHead.f k (tx s) = some r ∧ GoodH r s := by
  have hl := splitL_len 124 s
  unfold spec_ReadHead.f
  have hsp := specSplit_is 124 s hs k (by omega)
  rw [show (((124 : UInt8).toNat : Nat) : Int) = 124 from rfl] at hsp
  rw [hsp, bind_some_, List.length_map]
  by_cases h4 : (splitL 124 s).length = 4
  · obtain ⟨p0, p1, p2, p3, e⟩ := four_of h4
    have hl2 := hl.2
    rw [e] at hl2
    have g0 := hl2 p0 (by simp)
    have g1 := hl2 p1 (by simp)
    have g2 := hl2 p2 (by simp)
    have g3 := hl2 p3 (by simp)
    have r0 : rdOf ByteArray.empty ([p0, p1, p2, p3].map tx) 0 = tx p0 := rfl
    have r1 : rdOf ByteArray.empty ([p0, p1, p2, p3].map tx) 1 = tx p1 := rfl
    have r2 : rdOf ByteArray.empty ([p0, p1, p2, p3].map tx) 2 = tx p2 := rfl
    have r3 : rdOf ByteArray.empty ([p0, p1, p2, p3].map tx) 3 = tx p3 := rfl
    have n0 := numsOf_64 p0
    have n1 := numsOf_64 p1
    have n2 := numsOf_64 p2
    have n3 := numsOf_64 p3
    have hlen : (([p0, p1, p2, p3] : List (List UInt8)).length : Int) = 4 := rfl
    rw [if_pos (by omega), e, hlen, if_pos (by omega), r0, specNums_is p0 (by omega) k (by omega), bind_some_, if_pos (by omega), r3, specNums_is p3 (by omega) k (by omega), bind_some_]
    have hcomp : ∀ cs2 fc2 st2 x2 y2, hdOk cs2 fc2 st2 x2 y2 = true → headT cs2 fc2 st2 x2 y2 = s → numsOf p0 [] = flatC cs2 ∧ numsOf p1 [] = fc2 ∧ numsOf p2 [] = st2 ∧ numsOf p3 [] = [x2, y2] := fun cs2 fc2 st2 x2 y2 hh ht => by
      have hv := hdOk_vals hh
      have hp := headT_parts cs2 fc2 st2 x2 y2
      rw [ht, e] at hp
      simp only [List.cons.injEq, and_true] at hp
      obtain ⟨a0, a1, a2, a3⟩ := hp
      rw [a0, a1, a2, a3, numsOf_cuts cs2 [] hv.cv, numsOf_list 44 rfl (by decide) fc2 (fun v hm => by have := hv.fv v hm; omega), numsOf_list 44 rfl (by decide) st2 (fun v hm => by have := hv.sv v hm; omega), numsOf_list 44 rfl (by decide) [x2, y2] (fun v hm => by
        have := hv.xv
        have := hv.yv
        rcases List.mem_cons.mp hm with z | z
        · rw [z]; omega
        · rw [List.mem_singleton.mp z]; omega)]
      exact ⟨rfl, rfl, rfl, rfl⟩
    by_cases h2 : (numsOf p3 []).length = 2
    · have i0 := n3.1 (rd (numsOf p3 []) 0) (by rw [two_of h2]; simp [rd])
      have i1 := n3.1 (rd (numsOf p3 []) 1) (by rw [two_of h2]; simp [rd])
      rw [if_pos (by omega), if_pos (by omega), r1, specNums_is p1 (by omega) k (by omega), bind_some_, if_pos (by omega), r2, specNums_is p2 (by omega) k (by omega), bind_some_, if_pos (by omega), if_pos (by omega)]
      have hz := specRH_l0 s (numsOf p0 []) (numsOf p1 []) (numsOf p2 []) (rd (numsOf p3 []) 0) (rd (numsOf p3 []) 1) (by omega) n0.1 n1.1 n2.1 (by omega) (by omega) i0 i1 6000000 (by omega) ((numsOf p0 []).length + 1) k 0 [] (by omega) (by omega) (by omega) (by simp) (fun c hc => by simp at hc)
      rw [List.drop_zero, show ((0 : Nat) : Int) = 0 from rfl] at hz
      rw [hz]
      refine ⟨_, rfl, chkH_good (fun cs2 fc2 st2 x2 y2 hh ht => ?_)⟩
      obtain ⟨b0, b1, b2, b3⟩ := hcomp cs2 fc2 st2 x2 y2 hh ht
      rw [b0, b1, b2, b3, pairs_flat, List.nil_append]
      exact ⟨rfl, rfl, rfl, rfl, rfl⟩
    · rw [if_neg (by omega)]
      refine ⟨_, rfl, Or.inl rfl, fun cs2 fc2 st2 x2 y2 hh ht => ?_⟩
      have := (hcomp cs2 fc2 st2 x2 y2 hh ht).2.2.2
      rw [this] at h2
      exact absurd rfl h2
  · rw [if_neg (by omega)]
    refine ⟨_, rfl, Or.inl rfl, fun cs fc st x y hh ht => ?_⟩
    have := headT_parts cs fc st x y
    rw [ht] at this
    rw [this] at h4
    exact absurd rfl h4

end Go.Proofs.YtfcadpkhmkjibaaDoor.P
