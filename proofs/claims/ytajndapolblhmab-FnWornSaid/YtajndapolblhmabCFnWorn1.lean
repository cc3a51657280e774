/- What the claim of FnWorn bears, part 1: functions of the program as plain Lean functions, with proofs that the code comes to their answers, and lemmas on them. -/
import Derived.Test.YtajndapolblhmabCFnWorn0
namespace Go.Proofs.Ytajndapolblhmab.P
open Go.RowKit Go.Proofs.YtajndapolblhmabW.PrintWords Go.Proofs.YtajndapolblhmabW.PrintLast Go.Proofs.YtajndapolblhmabW.PrintMore
attribute [local go_sem] max2_int min2_int max_two min_two max_three min_three max_four min_four   -- for this text's walks alone
set_option linter.unusedVariables false
set_option linter.unusedSimpArgs false

mutual
def spec_l08DrawOk.j0 : Nat → Int → List Int → Int → Int → List (S79) → List Int → List Int → Int → Int → Option ((List (S79)) × List Int × List Int × Int × Int × Int × Int)
 | 0, _, _, _, _, _, _, _, _, _ => none
 | k + 1, x4, x1000, x1001, x1002, x627000, x627001, x627002, x627003, x627004 => spec_l08DrawOk.l0 k x4 0 x1000 x1001 x1002 x627000 x627001 x627002 x627003 x627004
def spec_l08DrawOk.l0 : Nat → Int → Int → List Int → Int → Int → List (S79) → List Int → List Int → Int → Int → Option ((List (S79)) × List Int × List Int × Int × Int × Int × Int)
 | 0, _, _, _, _, _, _, _, _, _, _ => none
 | k + 1, x4, x5, x1000, x1001, x1002, x627000, x627001, x627002, x627003, x627004 => if x5 < x4 then ((spec_l00Src_pick.f x1000 x1001 x1002 8).bind fun bt636 => (if x627001.length < 17592186044416 then ((some (x627001 ++ [bt636.1] : List Int)).bind fun y639 => (if (x627002.length : Int) < 5 then ((spec_l00Src_one.f x1000 bt636.2.1 bt636.2.2 2).bind fun bt642 => (if bt642.1 = true then (if x627002.length < 17592186044416 then (spec_l08DrawOk.l0 k x4 (wrap64 (x5 + 1)) x1000 bt642.2.1 bt642.2.2 x627000 y639 (x627002 ++ [x5]) x627003 x627004) else (none)) else (spec_l08DrawOk.l0 k x4 (wrap64 (x5 + 1)) x1000 bt642.2.1 bt642.2.2 x627000 y639 x627002 x627003 x627004))) else (spec_l08DrawOk.l0 k x4 (wrap64 (x5 + 1)) x1000 bt636.2.1 bt636.2.2 x627000 y639 x627002 x627003 x627004))) else (none))) else ((spec_l00Src_pick.f x1000 x1001 x1002 3).bind fun bt648 => (spec_l08DrawOk.l1 k (wrap64 (1 + bt648.1)) x1000 bt648.2.1 bt648.2.2 x627000 x627001 x627002 x627003 x627004))
def spec_l08DrawOk.l1 : Nat → Int → List Int → Int → Int → List (S79) → List Int → List Int → Int → Int → Option ((List (S79)) × List Int × List Int × Int × Int × Int × Int)
 | 0, _, _, _, _, _, _, _, _, _ => none
 | k + 1, x6, x1000, x1001, x1002, x627000, x627001, x627002, x627003, x627004 => if x6 > 0 then ((spec_l00Src_pick.f x1000 x1001 x1002 6).bind fun bt651 => ((spec_l00Src_pick.f x1000 bt651.2.1 bt651.2.2 80).bind fun bt655 => (if x627000.length < 8796093022208 then (spec_l08DrawOk.l1 k (wrap64 (x6 - 1)) x1000 bt655.2.1 bt655.2.2 (x627000 ++ [(⟨wrap64 (1 + bt651.1), wrap64 (20 + bt655.1)⟩ : S79)]) x627001 x627002 x627003 x627004) else (none)))) else ((spec_l00Src_one.f x1000 x1001 x1002 16).bind fun bt661 => (if bt661.1 = true then (if 0 < (x627000.length : Int) then (spec_l08DrawOk.l2 k x1000 bt661.2.1 bt661.2.2 (x627000.set (0 : Int).toNat (⟨100, 1000000⟩ : S79)) x627001 x627002 x627003 x627004) else (none)) else (some (x627000, x627001, x627002, x627003, x627004, bt661.2.1, bt661.2.2))))
def spec_l08DrawOk.l2 : Nat → List Int → Int → Int → List (S79) → List Int → List Int → Int → Int → Option ((List (S79)) × List Int × List Int × Int × Int × Int × Int)
 | 0, _, _, _, _, _, _, _, _ => none
 | k + 1, x1000, x1001, x1002, x627000, x627001, x627002, x627003, x627004 => if (x627000.length : Int) < 5 then (if x627000.length < 8796093022208 then (spec_l08DrawOk.l2 k x1000 x1001 x1002 (x627000 ++ [(⟨1, 30⟩ : S79)]) x627001 x627002 x627003 x627004) else (none)) else (some (x627000, x627001, x627002, x627003, x627004, x1001, x1002))
end
def spec_l08DrawOk.f (k : Nat) (s0_0 : List Int) (s0_1 : Int) (s0_2 : Int) : Option ((List (S79)) × List Int × List Int × Int × Int × Int × Int) := (some (([] : List (S79)) : List (S79))).bind fun y614 => ((some (([] : List Int) : List Int)).bind fun y617 => ((some (([] : List Int) : List Int)).bind fun y620 => ((spec_l00Src_pick.f s0_0 s0_1 s0_2 20).bind fun bt623 => ((spec_l00Src_pick.f s0_0 bt623.2.1 bt623.2.2 8).bind fun bt627 => ((spec_l00Src_pick.f s0_0 bt627.2.1 bt627.2.2 12).bind fun bt630 => ((spec_l00Src_one.f s0_0 bt630.2.1 bt630.2.2 14).bind fun bt633 => (if bt633.1 = true then (spec_l08DrawOk.j0 k 60 s0_0 bt633.2.1 bt633.2.2 y614 y617 y620 bt623.1 bt627.1) else (spec_l08DrawOk.j0 k bt630.1 s0_0 bt633.2.1 bt633.2.2 y614 y617 y620 bt623.1 bt627.1))))))))
def spec_l08DrawOk.T9 : Bool × List (List Nat × List Nat) := (true, [([], []), ([0], [0]), ([], []), ([2], [2]), ([3], [3]), ([1, 4, 3], [1, 4]), ([0, 1, 2, 3, 4, 5], []), ([6, 5, 5, 0, 1, 2, 3, 4, 5], [5, 6])])
def spec_l08DrawOk.B9 : List Nat := [0, 1, 0, 4, 12, 31, 63, 127]
theorem spec_l08DrawOk.tab9 : rtab .any (opsOf Try.f102 9) = spec_l08DrawOk.T9 := by kernel_rfl
theorem spec_l08DrawOk.bits9 : waitsOk spec_l08DrawOk.T9.2 spec_l08DrawOk.B9 = true := by kernel_rfl
set_option maxHeartbeats 8000000 in
set_option maxRecDepth 100000 in
theorem spec_l08DrawOk.calls (k : Nat) (g : Nat) (s0_0 : List Int) (s0_1 : Int) (s0_2 : Int) (r1 : List (S79)) (r2 : List Int) (r3 : List Int) (r4 : Int) (r5 : Int) (r6 : Int) (r7 : Int) (w0 w : World) (hI : IsS168 w0 w g s0_0 s0_1 s0_2) (hB : Below w0.heap.size w0 w) (h : spec_l08DrawOk.f k s0_0 s0_1 s0_2 = some (r1, r2, r3, r4, r5, r6, r7)) :
  Calls Try.prog 102 #[.pointer (some ⟨g, 0, none⟩)] w fun e w' => ∃ v0_ v1_ v2_ : Value, e = .returned (.agg #[v0_, v1_, v2_, .int .i64 r4, .int .i64 r5]) ∧ Kd.R k79 79 w' w.heap.size (fun _ => True) v0_ r1 ∧ Kd.R (Kd.int .i64) 2 w' w.heap.size (fun k_ => some k_ ≠ (v2_ : Value).ownBlock) v1_ r2 ∧ Kd.R (Kd.int .i64) 2 w' w.heap.size (fun k_ => some k_ ≠ (v1_ : Value).ownBlock) v2_ r3 ∧ IsS168 w0 w' g s0_0 r6 r7 ∧ Below w0.heap.size w0 w' ∧ KeepBut w w' g none := by
 have hu64 := Try.underlying64
 have hu79 := Try.underlying79
 have HI0 := Aside0.mk hI
 have HK := Aside0.mk (KeepBut.refl w g none)
 have HL := Aside0.mk hB.size
 clear hI
 have HW0 := Aside0.mk hB.size
 have HB := Aside0.mk hB
 clear hB
 have H : ((some (([] : List (S79)) : List (S79))).bind fun y614 => ((some (([] : List Int) : List Int)).bind fun y617 => ((some (([] : List Int) : List Int)).bind fun y620 => ((spec_l00Src_pick.f s0_0 s0_1 s0_2 20).bind fun bt623 => ((spec_l00Src_pick.f s0_0 bt623.2.1 bt623.2.2 8).bind fun bt627 => ((spec_l00Src_pick.f s0_0 bt627.2.1 bt627.2.2 12).bind fun bt630 => ((spec_l00Src_one.f s0_0 bt630.2.1 bt630.2.2 14).bind fun bt633 => (if bt633.1 = true then (spec_l08DrawOk.j0 k 60 s0_0 bt633.2.1 bt633.2.2 y614 y617 y620 bt623.1 bt627.1) else (spec_l08DrawOk.j0 k bt630.1 s0_0 bt633.2.1 bt633.2.2 y614 y617 y620 bt623.1 bt627.1))))))))) = some (r1, r2, r3, r4, r5, r6, r7) := h
 clear h
 obtain ⟨y614, hy614⟩ : ∃ y_ : List (S79), y_ = (([] : List (S79))) := ⟨_, rfl⟩
 replace H : ((some (([] : List Int) : List Int)).bind fun y617 => ((some (([] : List Int) : List Int)).bind fun y620 => ((spec_l00Src_pick.f s0_0 s0_1 s0_2 20).bind fun bt623 => ((spec_l00Src_pick.f s0_0 bt623.2.1 bt623.2.2 8).bind fun bt627 => ((spec_l00Src_pick.f s0_0 bt627.2.1 bt627.2.2 12).bind fun bt630 => ((spec_l00Src_one.f s0_0 bt630.2.1 bt630.2.2 14).bind fun bt633 => (if bt633.1 = true then (spec_l08DrawOk.j0 k 60 s0_0 bt633.2.1 bt633.2.2 y614 y617 y620 bt623.1 bt627.1) else (spec_l08DrawOk.j0 k bt630.1 s0_0 bt633.2.1 bt633.2.2 y614 y617 y620 bt623.1 bt627.1)))))))) = some (r1, r2, r3, r4, r5, r6, r7) := by first | (rw [hy614]; with_reducible exact H) | (have H2_ := (Option.bind_some _ _).symm.trans H; rw [hy614]; with_reducible exact H2_) | (have H2_ := (Option.bind_some _ _).symm.trans H; with_reducible exact H2_) | with_reducible exact H | (rw [hy614]; exact H) | exact H
 have Ny614 := Aside0.mk hy614
 clear hy614
 obtain ⟨y617, hy617⟩ : ∃ y_ : List Int, y_ = (([] : List Int)) := ⟨_, rfl⟩
 replace H : ((some (([] : List Int) : List Int)).bind fun y620 => ((spec_l00Src_pick.f s0_0 s0_1 s0_2 20).bind fun bt623 => ((spec_l00Src_pick.f s0_0 bt623.2.1 bt623.2.2 8).bind fun bt627 => ((spec_l00Src_pick.f s0_0 bt627.2.1 bt627.2.2 12).bind fun bt630 => ((spec_l00Src_one.f s0_0 bt630.2.1 bt630.2.2 14).bind fun bt633 => (if bt633.1 = true then (spec_l08DrawOk.j0 k 60 s0_0 bt633.2.1 bt633.2.2 y614 y617 y620 bt623.1 bt627.1) else (spec_l08DrawOk.j0 k bt630.1 s0_0 bt633.2.1 bt633.2.2 y614 y617 y620 bt623.1 bt627.1))))))) = some (r1, r2, r3, r4, r5, r6, r7) := by first | (rw [hy617]; with_reducible exact H) | (have H2_ := (Option.bind_some _ _).symm.trans H; rw [hy617]; with_reducible exact H2_) | (have H2_ := (Option.bind_some _ _).symm.trans H; with_reducible exact H2_) | with_reducible exact H | (rw [hy617]; exact H) | exact H
 have Ny617 := Aside0.mk hy617
 clear hy617
 obtain ⟨y620, hy620⟩ : ∃ y_ : List Int, y_ = (([] : List Int)) := ⟨_, rfl⟩
 replace H : ((spec_l00Src_pick.f s0_0 s0_1 s0_2 20).bind fun bt623 => ((spec_l00Src_pick.f s0_0 bt623.2.1 bt623.2.2 8).bind fun bt627 => ((spec_l00Src_pick.f s0_0 bt627.2.1 bt627.2.2 12).bind fun bt630 => ((spec_l00Src_one.f s0_0 bt630.2.1 bt630.2.2 14).bind fun bt633 => (if bt633.1 = true then (spec_l08DrawOk.j0 k 60 s0_0 bt633.2.1 bt633.2.2 y614 y617 y620 bt623.1 bt627.1) else (spec_l08DrawOk.j0 k bt630.1 s0_0 bt633.2.1 bt633.2.2 y614 y617 y620 bt623.1 bt627.1)))))) = some (r1, r2, r3, r4, r5, r6, r7) := by first | (rw [hy620]; with_reducible exact H) | (have H2_ := (Option.bind_some _ _).symm.trans H; rw [hy620]; with_reducible exact H2_) | (have H2_ := (Option.bind_some _ _).symm.trans H; with_reducible exact H2_) | with_reducible exact H | (rw [hy620]; exact H) | exact H
 have Ny620 := Aside0.mk hy620
 clear hy620
 replace H := Option.bind_eq_some_iff.mp H
 obtain ⟨⟨t623, t624, t625⟩, A20, H⟩ := H
 replace H : ((spec_l00Src_pick.f s0_0 t624 t625 8).bind fun bt627 => ((spec_l00Src_pick.f s0_0 bt627.2.1 bt627.2.2 12).bind fun bt630 => ((spec_l00Src_one.f s0_0 bt630.2.1 bt630.2.2 14).bind fun bt633 => (if bt633.1 = true then (spec_l08DrawOk.j0 k 60 s0_0 bt633.2.1 bt633.2.2 y614 y617 y620 t623 bt627.1) else (spec_l08DrawOk.j0 k bt630.1 s0_0 bt633.2.1 bt633.2.2 y614 y617 y620 t623 bt627.1))))) = some (r1, r2, r3, r4, r5, r6, r7) := H
 have A2 := Aside0.mk A20
 clear A20
 replace H := Option.bind_eq_some_iff.mp H
 obtain ⟨⟨t627, t628, t629⟩, A30, H⟩ := H
 replace H : ((spec_l00Src_pick.f s0_0 t628 t629 12).bind fun bt630 => ((spec_l00Src_one.f s0_0 bt630.2.1 bt630.2.2 14).bind fun bt633 => (if bt633.1 = true then (spec_l08DrawOk.j0 k 60 s0_0 bt633.2.1 bt633.2.2 y614 y617 y620 t623 t627) else (spec_l08DrawOk.j0 k bt630.1 s0_0 bt633.2.1 bt633.2.2 y614 y617 y620 t623 t627)))) = some (r1, r2, r3, r4, r5, r6, r7) := H
 have A3 := Aside0.mk A30
 clear A30
 replace H := Option.bind_eq_some_iff.mp H
 obtain ⟨⟨t630, t631, t632⟩, A40, H⟩ := H
 replace H : ((spec_l00Src_one.f s0_0 t631 t632 14).bind fun bt633 => (if bt633.1 = true then (spec_l08DrawOk.j0 k 60 s0_0 bt633.2.1 bt633.2.2 y614 y617 y620 t623 t627) else (spec_l08DrawOk.j0 k t630 s0_0 bt633.2.1 bt633.2.2 y614 y617 y620 t623 t627))) = some (r1, r2, r3, r4, r5, r6, r7) := H
 have A4 := Aside0.mk A40
 clear A40
 replace H := Option.bind_eq_some_iff.mp H
 obtain ⟨⟨t633, t634, t635⟩, A50, H⟩ := H
 replace H : (if t633 = true then (spec_l08DrawOk.j0 k 60 s0_0 t634 t635 y614 y617 y620 t623 t627) else (spec_l08DrawOk.j0 k t630 s0_0 t634 t635 y614 y617 y620 t623 t627)) = some (r1, r2, r3, r4, r5, r6, r7) := H
 have A5 := Aside0.mk A50
 clear A50
 have HC6 := Aside0.mk H
 clear H
 go_enter Try.func102, Try.ntmps102
 go_upto_if 20 with (first | ((with_reducible refine gate_dst (N := 2) rfl ?_); refine box_event ?hg (N := 2) ?hd (cs := #[.slice none 0 0, .slice none 0 0, .slice none 0 0, .int .i64 0, .int .i64 0]) (t := 64) ?hr ?_; (case hd => rfl); (case hg => rfl); (case hr => first | (go_simp; done) | (go_simp; rfl)); intro gb613 hg w7 hbox hb; have n0_ := Aside0.mk (IsS168.below (by repeat (first | (with_reducible first | exact HI0.out | apply IsS168.alloc | apply IsS168.drewN | apply IsS168.drew | apply IsS168.set_1 | apply IsS168.set_2) | exact HI0.out)) hb); have n1_ := Aside0.mk (KeepBut.trans (by repeat (first | (with_reducible first | exact HK.out | apply KeepBut.set_ | apply keep_drewN | apply keep_drew | apply keep_alloc) | exact HK.out)) (KeepBut.of_below hb g none) (.inl rfl)); have n2_ := Aside0.mk (below_step (by repeat (first | (with_reducible first | exact HB.out | apply below_alloc | apply pw_below_drewN | apply below_drew1 | refine below_set ?_ (IsS168.ge HI0.out)) | exact HB.out)) hb); have n3_ := Aside0.mk (hbox); have n4_ := Aside0.mk ((by rw [hg]; exact (keep_size (w := w) (g := g) (row := none) (by repeat (first | (with_reducible first | exact HK.out | apply KeepBut.set_ | apply keep_drewN | apply keep_drew | apply keep_alloc) | exact HK.out))) : w.heap.size ≤ gb613)); have n5_ := Aside0.mk ((Nat.le_trans HW0.out (by rw [hg]; exact (keep_size (w := w) (g := g) (row := none) (by repeat (first | (with_reducible first | exact HK.out | apply KeepBut.set_ | apply keep_drewN | apply keep_drew | apply keep_alloc) | exact HK.out))) : w.heap.size ≤ gb613) : w0.heap.size ≤ gb613)); have n6_ := Aside0.mk ((by rw [hg]; exact Nat.ne_of_lt (IsS168.lt (show IsS168 w0 _ g s0_0 s0_1 s0_2 from by repeat (first | (with_reducible first | exact HI0.out | apply IsS168.alloc | apply IsS168.drewN | apply IsS168.drew | apply IsS168.set_1 | apply IsS168.set_2) | exact HI0.out))) : g ≠ gb613)); have n7_ := Aside0.mk ((by rw [hg]; exact Nat.ne_of_gt (IsS168.lt (show IsS168 w0 _ g s0_0 s0_1 s0_2 from by repeat (first | (with_reducible first | exact HI0.out | apply IsS168.alloc | apply IsS168.drewN | apply IsS168.drew | apply IsS168.set_1 | apply IsS168.set_2) | exact HI0.out))) : gb613 ≠ g)); clear HI0; clear HK; clear HB; have HI0 := n0_; have HK := n1_; have HB := n2_; have BK613 := n3_; have GW613 := n4_; have GE613 := n5_; have NB0_613 := n6_; have NB613_0 := n7_; clear n0_ n1_ n2_ n3_ n4_ n5_ n6_ n7_; clear hb hbox hg) | ((with_reducible refine gate_dst (N := 8) rfl ?_); refine Kd.R_lit k79 _ 79 ?hg (N := 8) ?hd (xs := ([] : List (S79))) (inner := []) (ok := fun _ => True) (okp := fun _ => True) ?hr ?hp (fun _ hk => hk) trivial (Below.refl _ _) (Nat.le_refl _) (by simp) ?_; (case hd => rfl); (case hg => rfl); (case hr => first | (go_simp; done) | (go_simp; rfl)); (case hp => exact (Reps.none _ _)); intro v615 w8 ho9 hb hg_ hnew_; clear hg_ hnew_; (first | rw [← Ny614.out] at ho9 | (simp only [Int.reduceToNat] at ho9; rw [← Ny614.out] at ho9)); have n0_ := Aside0.mk (Kd.R_lower ho9 (keep_size (w := w) (g := g) (row := none) (by repeat (first | (with_reducible first | exact HK.out | apply KeepBut.set_ | apply keep_drewN | apply keep_drew | apply keep_alloc | refine keep_far ?_ GW613.out _) | exact HK.out)))); have n1_ := Aside0.mk (IsS168.below (by repeat (first | (with_reducible first | exact HI0.out | apply IsS168.alloc | apply IsS168.drewN | apply IsS168.drew | refine IsS168.far ?_ NB0_613.out _) | exact HI0.out)) hb); have n2_ := Aside0.mk (blk_below (g := gb613) (o := .cells #[.slice none 0 0, .slice none 0 0, .slice none 0 0, .int .i64 0, .int .i64 0] 64 (0, 0)) (by (with_reducible repeat (first | refine blk_drewN ?_ _ | refine blk_drew ?_ | refine blk_alloc ?_ _)); exact BK613.out) hb); have n3_ := Aside0.mk (KeepBut.trans (by repeat (first | (with_reducible first | exact HK.out | apply KeepBut.set_ | apply keep_drewN | apply keep_drew | apply keep_alloc | refine keep_far ?_ GW613.out _) | exact HK.out)) (KeepBut.of_below hb g none) (.inl rfl)); have n4_ := Aside0.mk (below_step (by repeat (first | (with_reducible first | exact HB.out | apply below_alloc | apply pw_below_drewN | apply below_drew1 | refine below_set ?_ (IsS168.ge HI0.out) | refine below_set ?_ GE613.out) | exact HB.out)) hb); clear HI0; clear BK613; clear HK; clear HB; have HO616 := n0_; have HI0 := n1_; have BK613 := n2_; have HK := n3_; have HB := n4_; clear n0_ n1_ n2_ n3_ n4_; clear hb ho9) | ((with_reducible refine gate_dst (N := 9) rfl ?_); refine Kd.R_lit (Kd.int .i64) _ 2 ?hg (N := 9) ?hd (xs := ([] : List Int)) (inner := []) (ok := fun _ => True) (okp := fun _ => True) ?hr ?hp (fun _ hk => hk) trivial (Below.refl _ _) (Nat.le_refl _) (by simp) ?_; (case hd => rfl); (case hg => rfl); (case hr => first | (go_simp; done) | (go_simp; rfl)); (case hp => exact (Reps.none _ _)); intro v618 w10 ho11 hb hg_ hnew_; clear hg_ hnew_; (first | rw [← Ny617.out] at ho11 | (simp only [Int.reduceToNat] at ho11; rw [← Ny617.out] at ho11)); have n0_ := Aside0.mk (Kd.R_below (by (with_reducible repeat (first | apply Kd.R_alloc | apply Kd.R_drewN | apply Kd.R_drew)); exact HO616.out) hb); have n1_ := Aside0.mk (Kd.R_lower ho11 (keep_size (w := w) (g := g) (row := none) (by repeat (first | (with_reducible first | exact HK.out | apply KeepBut.set_ | apply keep_drewN | apply keep_drew | apply keep_alloc | refine keep_far ?_ GW613.out _) | exact HK.out)))); have n2_ := Aside0.mk (IsS168.below (by repeat (first | (with_reducible first | exact HI0.out | apply IsS168.alloc | apply IsS168.drewN | apply IsS168.drew | refine IsS168.far ?_ NB0_613.out _) | exact HI0.out)) hb); have n3_ := Aside0.mk (blk_below (g := gb613) (o := .cells #[.slice none 0 0, .slice none 0 0, .slice none 0 0, .int .i64 0, .int .i64 0] 64 (0, 0)) (by (with_reducible repeat (first | refine blk_drewN ?_ _ | refine blk_drew ?_ | refine blk_alloc ?_ _)); exact BK613.out) hb); have n4_ := Aside0.mk (KeepBut.trans (by repeat (first | (with_reducible first | exact HK.out | apply KeepBut.set_ | apply keep_drewN | apply keep_drew | apply keep_alloc | refine keep_far ?_ GW613.out _) | exact HK.out)) (KeepBut.of_below hb g none) (.inl rfl)); have n5_ := Aside0.mk (below_step (by repeat (first | (with_reducible first | exact HB.out | apply below_alloc | apply pw_below_drewN | apply below_drew1 | refine below_set ?_ (IsS168.ge HI0.out) | refine below_set ?_ GE613.out) | exact HB.out)) hb); clear HO616; clear HI0; clear BK613; clear HK; clear HB; have HO616 := n0_; have HO619 := n1_; have HI0 := n2_; have BK613 := n3_; have HK := n4_; have HB := n5_; clear n0_ n1_ n2_ n3_ n4_ n5_; clear hb ho11) | ((with_reducible refine gate_dst (N := 10) rfl ?_); refine Kd.R_lit (Kd.int .i64) _ 2 ?hg (N := 10) ?hd (xs := ([] : List Int)) (inner := []) (ok := fun _ => True) (okp := fun _ => True) ?hr ?hp (fun _ hk => hk) trivial (Below.refl _ _) (Nat.le_refl _) (by simp) ?_; (case hd => rfl); (case hg => rfl); (case hr => first | (go_simp; done) | (go_simp; rfl)); (case hp => exact (Reps.none _ _)); intro v621 w12 ho13 hb hg_ hnew_; clear hg_ hnew_; (first | rw [← Ny620.out] at ho13 | (simp only [Int.reduceToNat] at ho13; rw [← Ny620.out] at ho13)); have n0_ := Aside0.mk (Kd.R_below (by (with_reducible repeat (first | apply Kd.R_alloc | apply Kd.R_drewN | apply Kd.R_drew)); exact HO616.out) hb); have n1_ := Aside0.mk (Kd.R_elder' (by (with_reducible repeat (first | apply Kd.R_alloc | apply Kd.R_drewN | apply Kd.R_drew)); exact HO619.out) (Kd.R_base ho13) hb); have n2_ := Aside0.mk (Kd.R_lower (Kd.R_new' ho13 (Kd.R_lt (by (with_reducible repeat (first | apply Kd.R_alloc | apply Kd.R_drewN | apply Kd.R_drew)); exact HO619.out))) (keep_size (w := w) (g := g) (row := none) (by repeat (first | (with_reducible first | exact HK.out | apply KeepBut.set_ | apply keep_drewN | apply keep_drew | apply keep_alloc | refine keep_far ?_ GW613.out _) | exact HK.out)))); have n3_ := Aside0.mk (IsS168.below (by repeat (first | (with_reducible first | exact HI0.out | apply IsS168.alloc | apply IsS168.drewN | apply IsS168.drew | refine IsS168.far ?_ NB0_613.out _) | exact HI0.out)) hb); have n4_ := Aside0.mk (blk_below (g := gb613) (o := .cells #[.slice none 0 0, .slice none 0 0, .slice none 0 0, .int .i64 0, .int .i64 0] 64 (0, 0)) (by (with_reducible repeat (first | refine blk_drewN ?_ _ | refine blk_drew ?_ | refine blk_alloc ?_ _)); exact BK613.out) hb); have n5_ := Aside0.mk (KeepBut.trans (by repeat (first | (with_reducible first | exact HK.out | apply KeepBut.set_ | apply keep_drewN | apply keep_drew | apply keep_alloc | refine keep_far ?_ GW613.out _) | exact HK.out)) (KeepBut.of_below hb g none) (.inl rfl)); have n6_ := Aside0.mk (below_step (by repeat (first | (with_reducible first | exact HB.out | apply below_alloc | apply pw_below_drewN | apply below_drew1 | refine below_set ?_ (IsS168.ge HI0.out) | refine below_set ?_ GE613.out) | exact HB.out)) hb); clear HO616; clear HO619; clear HI0; clear BK613; clear HK; clear HB; have HO616 := n0_; have HO619 := n1_; have HO622 := n2_; have HI0 := n3_; have BK613 := n4_; have HK := n5_; have HB := n6_; clear n0_ n1_ n2_ n3_ n4_ n5_ n6_; clear hb ho13) | ((with_reducible refine gate_callee (f := 74) rfl ?_); refine goesL_ (some 12) rfl rfl Try.func74 (by kernel_rfl) rfl #[.pointer (some ⟨g, 0, none⟩), .int .i64 20] rfl (by (try simp only [List.map_toArray, List.map_cons, List.map_nil]); first | done | rfl | (simp only [List.length_drop, List.length_take]; rfl)) ?_; (with_reducible refine (spec_l00Src_pick.calls g s0_0 s0_1 s0_2 20 t623 t624 t625 w0 _ ?side1 ?side2 A2.out).mono ?_); (case side1 => repeat (first | (with_reducible first | exact HI0.out | apply IsS168.alloc | apply IsS168.drewN | apply IsS168.drew | refine IsS168.far ?_ NB0_613.out _) | exact HI0.out)); (case side2 => repeat (first | (with_reducible first | exact HB.out | apply below_alloc | apply pw_below_drewN | apply below_drew1 | refine below_set ?_ (IsS168.ge HI0.out) | refine below_set ?_ GE613.out) | exact HB.out)); rintro e w14 ⟨rfl, hi, hb, hk⟩; refine ⟨_, rfl, ?_⟩; have n0_ := Aside0.mk (KeepBut.blk hk (g' := gb613) (o := .cells #[.slice none 0 0, .slice none 0 0, .slice none 0 0, .int .i64 0, .int .i64 0] 64 (0, 0)) (by (with_reducible repeat (first | refine blk_drewN ?_ _ | refine blk_drew ?_ | refine blk_alloc ?_ _)); exact BK613.out) NB613_0.out (by simp)); have n1_ := Aside0.mk (Kd.R_mono (Kd.R_keep (IsS168.apart (show IsS168 w0 _ g s0_0 s0_1 s0_2 from by repeat (first | (with_reducible first | exact HI0.out | apply IsS168.alloc | apply IsS168.drewN | apply IsS168.drew | refine IsS168.far ?_ NB0_613.out _) | exact HI0.out)) (by (with_reducible repeat (first | apply Kd.R_alloc | apply Kd.R_drewN | apply Kd.R_drew)); exact HO616.out) (by decide)) hk (fun _ h => h.2)) (fun _ h => h.1)); have n2_ := Aside0.mk (Kd.R_mono (Kd.R_keep (IsS168.apart (show IsS168 w0 _ g s0_0 s0_1 s0_2 from by repeat (first | (with_reducible first | exact HI0.out | apply IsS168.alloc | apply IsS168.drewN | apply IsS168.drew | refine IsS168.far ?_ NB0_613.out _) | exact HI0.out)) (by (with_reducible repeat (first | apply Kd.R_alloc | apply Kd.R_drewN | apply Kd.R_drew)); exact HO619.out) (by decide)) hk (fun _ h => h.2)) (fun _ h => h.1)); have n3_ := Aside0.mk (Kd.R_mono (Kd.R_keep (IsS168.apart (show IsS168 w0 _ g s0_0 s0_1 s0_2 from by repeat (first | (with_reducible first | exact HI0.out | apply IsS168.alloc | apply IsS168.drewN | apply IsS168.drew | refine IsS168.far ?_ NB0_613.out _) | exact HI0.out)) (by (with_reducible repeat (first | apply Kd.R_alloc | apply Kd.R_drewN | apply Kd.R_drew)); exact HO622.out) (by decide)) hk (fun _ h => h.2)) (fun _ h => h.1)); have n4_ := Aside0.mk (KeepBut.trans (by repeat (first | (with_reducible first | exact HK.out | apply KeepBut.set_ | apply keep_drewN | apply keep_drew | apply keep_alloc | refine keep_far ?_ GW613.out _) | exact HK.out)) hk (.inl rfl)); have n5_ := Aside0.mk (hb); have n6_ := Aside0.mk (hi); clear BK613; clear HO616; clear HO619; clear HO622; clear HK; clear HB; clear HI0; have BK613 := n0_; have HO616 := n1_; have HO619 := n2_; have HO622 := n3_; have HK := n4_; have HB := n5_; have HI0 := n6_; clear n0_ n1_ n2_ n3_ n4_ n5_ n6_; (try clear hb); (try clear hb2); (try clear hk); (try clear hi); obtain ⟨Ao15, co15, eo15⟩ := Kd.R_slice HO622.out; subst eo15; obtain ⟨Ao16, co16, eo16⟩ := Kd.R_slice HO619.out; subst eo16; obtain ⟨Ao17, co17, eo17⟩ := Kd.R_slice HO616.out; subst eo17) | ((with_reducible refine gate_dst (N := 3) rfl ?_); refine box_event ?hg (N := 3) ?hd (cs := #[.slice none 0 0, .slice none 0 0, .slice none 0 0, .int .i64 0, .int .i64 0]) (t := 64) ?hr ?_; (case hd => rfl); (case hg => rfl); (case hr => first | (go_simp; done) | (go_simp; rfl)); intro gb626 hg w18 hbox hb; have n0_ := Aside0.mk (Kd.R_below (by (with_reducible repeat (first | apply Kd.R_alloc | apply Kd.R_drewN | apply Kd.R_drew)); exact HO616.out) hb); have n1_ := Aside0.mk (Kd.R_below (by (with_reducible repeat (first | apply Kd.R_alloc | apply Kd.R_drewN | apply Kd.R_drew)); exact HO619.out) hb); have n2_ := Aside0.mk (Kd.R_below (by (with_reducible repeat (first | apply Kd.R_alloc | apply Kd.R_drewN | apply Kd.R_drew)); exact HO622.out) hb); have n3_ := Aside0.mk (IsS168.below (by repeat (first | (with_reducible first | exact HI0.out | apply IsS168.alloc | apply IsS168.drewN | apply IsS168.drew | refine IsS168.far ?_ NB0_613.out _) | exact HI0.out)) hb); have n4_ := Aside0.mk (blk_below (g := gb613) (o := .cells #[.slice none 0 0, .slice none 0 0, .slice none 0 0, .int .i64 0, .int .i64 0] 64 (0, 0)) (by (with_reducible repeat (first | refine blk_drewN ?_ _ | refine blk_drew ?_ | refine blk_alloc ?_ _)); exact BK613.out) hb); have n5_ := Aside0.mk (KeepBut.trans (by repeat (first | (with_reducible first | exact HK.out | apply KeepBut.set_ | apply keep_drewN | apply keep_drew | apply keep_alloc | refine keep_far ?_ GW613.out _) | exact HK.out)) (KeepBut.of_below hb g none) (.inl rfl)); have n6_ := Aside0.mk (below_step (by repeat (first | (with_reducible first | exact HB.out | apply below_alloc | apply pw_below_drewN | apply below_drew1 | refine below_set ?_ (IsS168.ge HI0.out) | refine below_set ?_ GE613.out) | exact HB.out)) hb); have n7_ := Aside0.mk (hbox); have n8_ := Aside0.mk ((by rw [hg]; exact (keep_size (w := w) (g := g) (row := none) (by repeat (first | (with_reducible first | exact HK.out | apply KeepBut.set_ | apply keep_drewN | apply keep_drew | apply keep_alloc | refine keep_far ?_ GW613.out _) | exact HK.out))) : w.heap.size ≤ gb626)); have n9_ := Aside0.mk ((Nat.le_trans HW0.out (by rw [hg]; exact (keep_size (w := w) (g := g) (row := none) (by repeat (first | (with_reducible first | exact HK.out | apply KeepBut.set_ | apply keep_drewN | apply keep_drew | apply keep_alloc | refine keep_far ?_ GW613.out _) | exact HK.out))) : w.heap.size ≤ gb626) : w0.heap.size ≤ gb626)); have n10_ := Aside0.mk ((by rw [hg]; exact Nat.ne_of_lt (blk_lt (g := gb613) (o := .cells #[.slice none 0 0, .slice none 0 0, .slice none 0 0, .int .i64 0, .int .i64 0] 64 (0, 0)) (by (with_reducible repeat (first | refine blk_drewN ?_ _ | refine blk_drew ?_ | refine blk_alloc ?_ _)); exact BK613.out)) : gb613 ≠ gb626)); have n11_ := Aside0.mk ((by rw [hg]; exact Nat.ne_of_gt (blk_lt (g := gb613) (o := .cells #[.slice none 0 0, .slice none 0 0, .slice none 0 0, .int .i64 0, .int .i64 0] 64 (0, 0)) (by (with_reducible repeat (first | refine blk_drewN ?_ _ | refine blk_drew ?_ | refine blk_alloc ?_ _)); exact BK613.out)) : gb626 ≠ gb613)); have n12_ := Aside0.mk ((by rw [hg]; exact Nat.ne_of_lt (IsS168.lt (show IsS168 w0 _ g s0_0 t624 t625 from by repeat (first | (with_reducible first | exact HI0.out | apply IsS168.alloc | apply IsS168.drewN | apply IsS168.drew | refine IsS168.far ?_ NB0_613.out _) | exact HI0.out))) : g ≠ gb626)); have n13_ := Aside0.mk ((by rw [hg]; exact Nat.ne_of_gt (IsS168.lt (show IsS168 w0 _ g s0_0 t624 t625 from by repeat (first | (with_reducible first | exact HI0.out | apply IsS168.alloc | apply IsS168.drewN | apply IsS168.drew | refine IsS168.far ?_ NB0_613.out _) | exact HI0.out))) : gb626 ≠ g)); clear HO616; clear HO619; clear HO622; clear HI0; clear BK613; clear HK; clear HB; have HO616 := n0_; have HO619 := n1_; have HO622 := n2_; have HI0 := n3_; have BK613 := n4_; have HK := n5_; have HB := n6_; have BK626 := n7_; have GW626 := n8_; have GE626 := n9_; have NB613_626 := n10_; have NB626_613 := n11_; have NB0_626 := n12_; have NB626_0 := n13_; clear n0_ n1_ n2_ n3_ n4_ n5_ n6_ n7_ n8_ n9_ n10_ n11_ n12_ n13_; clear hb hbox hg; have hnb19 := NB626_613.out; have hnc19 := NB613_626.out; have hnb20 := NB626_0.out; have hnc20 := NB0_626.out; have hcz21_0 : w18.cell? ⟨gb626, 0, none⟩ = some (.slice none 0 0) := (blk_cell BK626.out 0).trans rfl; have hcz21_1 : w18.cell? ⟨gb626, 1, none⟩ = some (.slice none 0 0) := (blk_cell BK626.out 1).trans rfl; have hcz21_2 : w18.cell? ⟨gb626, 2, none⟩ = some (.slice none 0 0) := (blk_cell BK626.out 2).trans rfl; have hcz21_3 : w18.cell? ⟨gb626, 3, none⟩ = some (.int .i64 0) := (blk_cell BK626.out 3).trans rfl; have hcz21_4 : w18.cell? ⟨gb626, 4, none⟩ = some (.int .i64 0) := (blk_cell BK626.out 4).trans rfl; have hfz21_0 := blk_frozen BK626.out 0; have hfz21_1 := blk_frozen BK626.out 1; have hfz21_2 := blk_frozen BK626.out 2; have hfz21_3 := blk_frozen BK626.out 3; have hfz21_4 := blk_frozen BK626.out 4) | ((with_reducible refine gate_callee (f := 74) rfl ?_); refine goesL_ (some 15) rfl rfl Try.func74 (by kernel_rfl) rfl #[.pointer (some ⟨g, 0, none⟩), .int .i64 8] rfl (by (try simp only [List.map_toArray, List.map_cons, List.map_nil]); first | done | rfl | (simp only [List.length_drop, List.length_take]; rfl)) ?_; (with_reducible refine (spec_l00Src_pick.calls g s0_0 t624 t625 8 t627 t628 t629 w0 _ ?side1 ?side2 A3.out).mono ?_); (case side1 => repeat (first | (with_reducible first | exact HI0.out | apply IsS168.alloc | apply IsS168.drewN | apply IsS168.drew | refine IsS168.far ?_ NB0_613.out _ | refine IsS168.far ?_ NB0_626.out _) | exact HI0.out)); (case side2 => repeat (first | (with_reducible first | exact HB.out | apply below_alloc | apply pw_below_drewN | apply below_drew1 | refine below_set ?_ (IsS168.ge HI0.out) | refine below_set ?_ GE613.out | refine below_set ?_ GE626.out) | exact HB.out)); rintro e w22 ⟨rfl, hi, hb, hk⟩; refine ⟨_, rfl, ?_⟩; have n0_ := Aside0.mk (KeepBut.blk hk (g' := gb613) (o := .cells #[.slice none 0 0, .slice none 0 0, .slice none 0 0, .int .i64 0, .int .i64 0] 64 (0, 0)) (by (with_reducible repeat (first | refine blk_drewN ?_ _ | refine blk_drew ?_ | refine blk_alloc ?_ _)); refine blk_far ?_ NB613_626.out _; (with_reducible repeat (first | refine blk_drewN ?_ _ | refine blk_drew ?_ | refine blk_alloc ?_ _)); refine blk_far ?_ NB613_626.out _; (with_reducible repeat (first | refine blk_drewN ?_ _ | refine blk_drew ?_ | refine blk_alloc ?_ _)); refine blk_far ?_ NB613_626.out _; (with_reducible repeat (first | refine blk_drewN ?_ _ | refine blk_drew ?_ | refine blk_alloc ?_ _)); refine blk_far ?_ NB613_626.out _; (with_reducible repeat (first | refine blk_drewN ?_ _ | refine blk_drew ?_ | refine blk_alloc ?_ _)); refine blk_far ?_ NB613_626.out _; (with_reducible repeat (first | refine blk_drewN ?_ _ | refine blk_drew ?_ | refine blk_alloc ?_ _)); exact BK613.out) NB613_0.out (by simp)); have n1_ := Aside0.mk (Kd.R_mono (Kd.R_keep (IsS168.apart (show IsS168 w0 _ g s0_0 t624 t625 from by repeat (first | (with_reducible first | exact HI0.out | apply IsS168.alloc | apply IsS168.drewN | apply IsS168.drew | refine IsS168.far ?_ NB0_613.out _ | refine IsS168.far ?_ NB0_626.out _) | exact HI0.out)) (by (with_reducible repeat (first | apply Kd.R_alloc | apply Kd.R_drewN | apply Kd.R_drew)); exact (Kd.R_mono (Kd.R_far (p := ⟨gb626, 4, none⟩) (Kd.R_far (p := ⟨gb626, 3, none⟩) (Kd.R_far (p := ⟨gb626, 2, none⟩) (Kd.R_far (p := ⟨gb626, 1, none⟩) (Kd.R_far (p := ⟨gb626, 0, none⟩) (Kd.R_types HO616.out BK626.out (by decide)) (fun _ hk => hk.2) (.slice Ao17 y614.length co17)) (fun _ hk => hk.2) (.slice Ao16 y617.length co16)) (fun _ hk => hk.2) (.slice Ao15 y620.length co15)) (fun _ hk => hk.2) (.int .i64 t623)) (fun _ hk => hk.2) (.int .i64 0)) (fun _ h_ => h_.1))) (by decide)) hk (fun _ h => h.2)) (fun _ h => h.1)); have n2_ := Aside0.mk (Kd.R_mono (Kd.R_keep (IsS168.apart (show IsS168 w0 _ g s0_0 t624 t625 from by repeat (first | (with_reducible first | exact HI0.out | apply IsS168.alloc | apply IsS168.drewN | apply IsS168.drew | refine IsS168.far ?_ NB0_613.out _ | refine IsS168.far ?_ NB0_626.out _) | exact HI0.out)) (by (with_reducible repeat (first | apply Kd.R_alloc | apply Kd.R_drewN | apply Kd.R_drew)); exact (Kd.R_mono (Kd.R_far (p := ⟨gb626, 4, none⟩) (Kd.R_far (p := ⟨gb626, 3, none⟩) (Kd.R_far (p := ⟨gb626, 2, none⟩) (Kd.R_far (p := ⟨gb626, 1, none⟩) (Kd.R_far (p := ⟨gb626, 0, none⟩) (Kd.R_types HO619.out BK626.out (by decide)) (fun _ hk => hk.2) (.slice Ao17 y614.length co17)) (fun _ hk => hk.2) (.slice Ao16 y617.length co16)) (fun _ hk => hk.2) (.slice Ao15 y620.length co15)) (fun _ hk => hk.2) (.int .i64 t623)) (fun _ hk => hk.2) (.int .i64 0)) (fun _ h_ => h_.1))) (by decide)) hk (fun _ h => h.2)) (fun _ h => h.1)); have n3_ := Aside0.mk (Kd.R_mono (Kd.R_keep (IsS168.apart (show IsS168 w0 _ g s0_0 t624 t625 from by repeat (first | (with_reducible first | exact HI0.out | apply IsS168.alloc | apply IsS168.drewN | apply IsS168.drew | refine IsS168.far ?_ NB0_613.out _ | refine IsS168.far ?_ NB0_626.out _) | exact HI0.out)) (by (with_reducible repeat (first | apply Kd.R_alloc | apply Kd.R_drewN | apply Kd.R_drew)); exact (Kd.R_mono (Kd.R_far (p := ⟨gb626, 4, none⟩) (Kd.R_far (p := ⟨gb626, 3, none⟩) (Kd.R_far (p := ⟨gb626, 2, none⟩) (Kd.R_far (p := ⟨gb626, 1, none⟩) (Kd.R_far (p := ⟨gb626, 0, none⟩) (Kd.R_types HO622.out BK626.out (by decide)) (fun _ hk => hk.2) (.slice Ao17 y614.length co17)) (fun _ hk => hk.2) (.slice Ao16 y617.length co16)) (fun _ hk => hk.2) (.slice Ao15 y620.length co15)) (fun _ hk => hk.2) (.int .i64 t623)) (fun _ hk => hk.2) (.int .i64 0)) (fun _ h_ => h_.1))) (by decide)) hk (fun _ h => h.2)) (fun _ h => h.1)); have n4_ := Aside0.mk (KeepBut.blk hk (g' := gb626) (o := .cells #[.slice Ao17 y614.length co17, .slice Ao16 y617.length co16, .slice Ao15 y620.length co15, .int .i64 t623, .int .i64 0] 64 (0, 0)) (by (with_reducible repeat (first | refine blk_drewN ?_ _ | refine blk_drew ?_ | refine blk_alloc ?_ _)); refine blk_put (cs := #[.slice Ao17 y614.length co17, .slice Ao16 y617.length co16, .slice Ao15 y620.length co15, .int .i64 t623, .int .i64 0]) ?_ 4 _ rfl; (with_reducible repeat (first | refine blk_drewN ?_ _ | refine blk_drew ?_ | refine blk_alloc ?_ _)); refine blk_put (cs := #[.slice Ao17 y614.length co17, .slice Ao16 y617.length co16, .slice Ao15 y620.length co15, .int .i64 0, .int .i64 0]) ?_ 3 _ rfl; (with_reducible repeat (first | refine blk_drewN ?_ _ | refine blk_drew ?_ | refine blk_alloc ?_ _)); refine blk_put (cs := #[.slice Ao17 y614.length co17, .slice Ao16 y617.length co16, .slice none 0 0, .int .i64 0, .int .i64 0]) ?_ 2 _ rfl; (with_reducible repeat (first | refine blk_drewN ?_ _ | refine blk_drew ?_ | refine blk_alloc ?_ _)); refine blk_put (cs := #[.slice Ao17 y614.length co17, .slice none 0 0, .slice none 0 0, .int .i64 0, .int .i64 0]) ?_ 1 _ rfl; (with_reducible repeat (first | refine blk_drewN ?_ _ | refine blk_drew ?_ | refine blk_alloc ?_ _)); refine blk_put (cs := #[.slice none 0 0, .slice none 0 0, .slice none 0 0, .int .i64 0, .int .i64 0]) ?_ 0 _ rfl; (with_reducible repeat (first | refine blk_drewN ?_ _ | refine blk_drew ?_ | refine blk_alloc ?_ _)); exact BK626.out) NB626_0.out (by simp)); have n5_ := Aside0.mk (KeepBut.trans (by repeat (first | (with_reducible first | exact HK.out | apply KeepBut.set_ | apply keep_drewN | apply keep_drew | apply keep_alloc | refine keep_far ?_ GW613.out _ | refine keep_far ?_ GW626.out _) | exact HK.out)) hk (.inl rfl)); have n6_ := Aside0.mk (hb); have n7_ := Aside0.mk (hi); clear BK613; clear HO616; clear HO619; clear HO622; clear BK626; clear HK; clear HB; clear HI0; have BK613 := n0_; have HO616 := n1_; have HO619 := n2_; have HO622 := n3_; have BK626 := n4_; have HK := n5_; have HB := n6_; have HI0 := n7_; clear n0_ n1_ n2_ n3_ n4_ n5_ n6_ n7_; (try clear hb); (try clear hb2); (try clear hk); (try clear hi); have hcz23_0 : w22.cell? ⟨gb626, 0, none⟩ = some (.slice Ao17 y614.length co17) := (blk_cell BK626.out 0).trans rfl; have hcz23_1 : w22.cell? ⟨gb626, 1, none⟩ = some (.slice Ao16 y617.length co16) := (blk_cell BK626.out 1).trans rfl; have hcz23_2 : w22.cell? ⟨gb626, 2, none⟩ = some (.slice Ao15 y620.length co15) := (blk_cell BK626.out 2).trans rfl; have hcz23_3 : w22.cell? ⟨gb626, 3, none⟩ = some (.int .i64 t623) := (blk_cell BK626.out 3).trans rfl; have hcz23_4 : w22.cell? ⟨gb626, 4, none⟩ = some (.int .i64 0) := (blk_cell BK626.out 4).trans rfl; have hfz23_0 := blk_frozen BK626.out 0; have hfz23_1 := blk_frozen BK626.out 1; have hfz23_2 := blk_frozen BK626.out 2; have hfz23_3 := blk_frozen BK626.out 3; have hfz23_4 := blk_frozen BK626.out 4) | ((with_reducible refine gate_callee (f := 74) rfl ?_); refine goesL_ (some 18) rfl rfl Try.func74 (by kernel_rfl) rfl #[.pointer (some ⟨g, 0, none⟩), .int .i64 12] rfl (by (try simp only [List.map_toArray, List.map_cons, List.map_nil]); first | done | rfl | (simp only [List.length_drop, List.length_take]; rfl)) ?_; (with_reducible refine (spec_l00Src_pick.calls g s0_0 t628 t629 12 t630 t631 t632 w0 _ ?side1 ?side2 A4.out).mono ?_); (case side1 => repeat (first | (with_reducible first | exact HI0.out | apply IsS168.alloc | apply IsS168.drewN | apply IsS168.drew | refine IsS168.far ?_ NB0_613.out _ | refine IsS168.far ?_ NB0_626.out _) | exact HI0.out)); (case side2 => repeat (first | (with_reducible first | exact HB.out | apply below_alloc | apply pw_below_drewN | apply below_drew1 | refine below_set ?_ (IsS168.ge HI0.out) | refine below_set ?_ GE613.out | refine below_set ?_ GE626.out) | exact HB.out)); rintro e w24 ⟨rfl, hi, hb, hk⟩; refine ⟨_, rfl, ?_⟩; have n0_ := Aside0.mk (KeepBut.blk hk (g' := gb613) (o := .cells #[.slice none 0 0, .slice none 0 0, .slice none 0 0, .int .i64 0, .int .i64 0] 64 (0, 0)) (by (with_reducible repeat (first | refine blk_drewN ?_ _ | refine blk_drew ?_ | refine blk_alloc ?_ _)); refine blk_far ?_ NB613_626.out _; (with_reducible repeat (first | refine blk_drewN ?_ _ | refine blk_drew ?_ | refine blk_alloc ?_ _)); exact BK613.out) NB613_0.out (by simp)); have n1_ := Aside0.mk (Kd.R_mono (Kd.R_keep (IsS168.apart (show IsS168 w0 _ g s0_0 t628 t629 from by repeat (first | (with_reducible first | exact HI0.out | apply IsS168.alloc | apply IsS168.drewN | apply IsS168.drew | refine IsS168.far ?_ NB0_613.out _ | refine IsS168.far ?_ NB0_626.out _) | exact HI0.out)) (by (with_reducible repeat (first | apply Kd.R_alloc | apply Kd.R_drewN | apply Kd.R_drew)); exact (Kd.R_mono (Kd.R_far (p := ⟨gb626, 4, none⟩) (Kd.R_types HO616.out BK626.out (by decide)) (fun _ hk => hk.2) (.int .i64 t627)) (fun _ h_ => h_.1))) (by decide)) hk (fun _ h => h.2)) (fun _ h => h.1)); have n2_ := Aside0.mk (Kd.R_mono (Kd.R_keep (IsS168.apart (show IsS168 w0 _ g s0_0 t628 t629 from by repeat (first | (with_reducible first | exact HI0.out | apply IsS168.alloc | apply IsS168.drewN | apply IsS168.drew | refine IsS168.far ?_ NB0_613.out _ | refine IsS168.far ?_ NB0_626.out _) | exact HI0.out)) (by (with_reducible repeat (first | apply Kd.R_alloc | apply Kd.R_drewN | apply Kd.R_drew)); exact (Kd.R_mono (Kd.R_far (p := ⟨gb626, 4, none⟩) (Kd.R_types HO619.out BK626.out (by decide)) (fun _ hk => hk.2) (.int .i64 t627)) (fun _ h_ => h_.1))) (by decide)) hk (fun _ h => h.2)) (fun _ h => h.1)); have n3_ := Aside0.mk (Kd.R_mono (Kd.R_keep (IsS168.apart (show IsS168 w0 _ g s0_0 t628 t629 from by repeat (first | (with_reducible first | exact HI0.out | apply IsS168.alloc | apply IsS168.drewN | apply IsS168.drew | refine IsS168.far ?_ NB0_613.out _ | refine IsS168.far ?_ NB0_626.out _) | exact HI0.out)) (by (with_reducible repeat (first | apply Kd.R_alloc | apply Kd.R_drewN | apply Kd.R_drew)); exact (Kd.R_mono (Kd.R_far (p := ⟨gb626, 4, none⟩) (Kd.R_types HO622.out BK626.out (by decide)) (fun _ hk => hk.2) (.int .i64 t627)) (fun _ h_ => h_.1))) (by decide)) hk (fun _ h => h.2)) (fun _ h => h.1)); have n4_ := Aside0.mk (KeepBut.blk hk (g' := gb626) (o := .cells #[.slice Ao17 y614.length co17, .slice Ao16 y617.length co16, .slice Ao15 y620.length co15, .int .i64 t623, .int .i64 t627] 64 (0, 0)) (by (with_reducible repeat (first | refine blk_drewN ?_ _ | refine blk_drew ?_ | refine blk_alloc ?_ _)); refine blk_put (cs := #[.slice Ao17 y614.length co17, .slice Ao16 y617.length co16, .slice Ao15 y620.length co15, .int .i64 t623, .int .i64 0]) ?_ 4 _ rfl; (with_reducible repeat (first | refine blk_drewN ?_ _ | refine blk_drew ?_ | refine blk_alloc ?_ _)); exact BK626.out) NB626_0.out (by simp)); have n5_ := Aside0.mk (KeepBut.trans (by repeat (first | (with_reducible first | exact HK.out | apply KeepBut.set_ | apply keep_drewN | apply keep_drew | apply keep_alloc | refine keep_far ?_ GW613.out _ | refine keep_far ?_ GW626.out _) | exact HK.out)) hk (.inl rfl)); have n6_ := Aside0.mk (hb); have n7_ := Aside0.mk (hi); clear BK613; clear HO616; clear HO619; clear HO622; clear BK626; clear HK; clear HB; clear HI0; have BK613 := n0_; have HO616 := n1_; have HO619 := n2_; have HO622 := n3_; have BK626 := n4_; have HK := n5_; have HB := n6_; have HI0 := n7_; clear n0_ n1_ n2_ n3_ n4_ n5_ n6_ n7_; (try clear hb); (try clear hb2); (try clear hk); (try clear hi)) | ((with_reducible refine gate_callee (f := 103) rfl ?_); refine goesL_ (some 20) rfl rfl Try.func103 (by kernel_rfl) rfl #[.pointer (some ⟨g, 0, none⟩), .int .i64 14] rfl (by (try simp only [List.map_toArray, List.map_cons, List.map_nil]); first | done | rfl | (simp only [List.length_drop, List.length_take]; rfl)) ?_; (with_reducible refine (spec_l00Src_one.calls g s0_0 t631 t632 14 t633 t634 t635 w0 _ ?side1 ?side2 A5.out).mono ?_); (case side1 => repeat (first | (with_reducible first | exact HI0.out | apply IsS168.alloc | apply IsS168.drewN | apply IsS168.drew | refine IsS168.far ?_ NB0_613.out _ | refine IsS168.far ?_ NB0_626.out _) | exact HI0.out)); (case side2 => repeat (first | (with_reducible first | exact HB.out | apply below_alloc | apply pw_below_drewN | apply below_drew1 | refine below_set ?_ (IsS168.ge HI0.out) | refine below_set ?_ GE613.out | refine below_set ?_ GE626.out) | exact HB.out)); rintro e w25 ⟨rfl, hi, hb, hk⟩; refine ⟨_, rfl, ?_⟩; have n0_ := Aside0.mk (KeepBut.blk hk (g' := gb613) (o := .cells #[.slice none 0 0, .slice none 0 0, .slice none 0 0, .int .i64 0, .int .i64 0] 64 (0, 0)) (by (with_reducible repeat (first | refine blk_drewN ?_ _ | refine blk_drew ?_ | refine blk_alloc ?_ _)); exact BK613.out) NB613_0.out (by simp)); have n1_ := Aside0.mk (Kd.R_mono (Kd.R_keep (IsS168.apart (show IsS168 w0 _ g s0_0 t631 t632 from by repeat (first | (with_reducible first | exact HI0.out | apply IsS168.alloc | apply IsS168.drewN | apply IsS168.drew | refine IsS168.far ?_ NB0_613.out _ | refine IsS168.far ?_ NB0_626.out _) | exact HI0.out)) (by (with_reducible repeat (first | apply Kd.R_alloc | apply Kd.R_drewN | apply Kd.R_drew)); exact HO616.out) (by decide)) hk (fun _ h => h.2)) (fun _ h => h.1)); have n2_ := Aside0.mk (Kd.R_mono (Kd.R_keep (IsS168.apart (show IsS168 w0 _ g s0_0 t631 t632 from by repeat (first | (with_reducible first | exact HI0.out | apply IsS168.alloc | apply IsS168.drewN | apply IsS168.drew | refine IsS168.far ?_ NB0_613.out _ | refine IsS168.far ?_ NB0_626.out _) | exact HI0.out)) (by (with_reducible repeat (first | apply Kd.R_alloc | apply Kd.R_drewN | apply Kd.R_drew)); exact HO619.out) (by decide)) hk (fun _ h => h.2)) (fun _ h => h.1)); have n3_ := Aside0.mk (Kd.R_mono (Kd.R_keep (IsS168.apart (show IsS168 w0 _ g s0_0 t631 t632 from by repeat (first | (with_reducible first | exact HI0.out | apply IsS168.alloc | apply IsS168.drewN | apply IsS168.drew | refine IsS168.far ?_ NB0_613.out _ | refine IsS168.far ?_ NB0_626.out _) | exact HI0.out)) (by (with_reducible repeat (first | apply Kd.R_alloc | apply Kd.R_drewN | apply Kd.R_drew)); exact HO622.out) (by decide)) hk (fun _ h => h.2)) (fun _ h => h.1)); have n4_ := Aside0.mk (KeepBut.blk hk (g' := gb626) (o := .cells #[.slice Ao17 y614.length co17, .slice Ao16 y617.length co16, .slice Ao15 y620.length co15, .int .i64 t623, .int .i64 t627] 64 (0, 0)) (by (with_reducible repeat (first | refine blk_drewN ?_ _ | refine blk_drew ?_ | refine blk_alloc ?_ _)); exact BK626.out) NB626_0.out (by simp)); have n5_ := Aside0.mk (KeepBut.trans (by repeat (first | (with_reducible first | exact HK.out | apply KeepBut.set_ | apply keep_drewN | apply keep_drew | apply keep_alloc | refine keep_far ?_ GW613.out _ | refine keep_far ?_ GW626.out _) | exact HK.out)) hk (.inl rfl)); have n6_ := Aside0.mk (hb); have n7_ := Aside0.mk (hi); clear BK613; clear HO616; clear HO619; clear HO622; clear BK626; clear HK; clear HB; clear HI0; have BK613 := n0_; have HO616 := n1_; have HO619 := n2_; have HO622 := n3_; have BK626 := n4_; have HK := n5_; have HB := n6_; have HI0 := n7_; clear n0_ n1_ n2_ n3_ n4_ n5_ n6_ n7_; (try clear hb); (try clear hb2); (try clear hk); (try clear hi)))
 (try simp only [Act.put, List.setIfInBounds_toArray, List.set_cons_zero, List.set_cons_succ])
 go_cut [4] (fun v4 wc => ∃ (kq : Nat) (x4_5 : Int), v4 = .int .i64 x4_5 ∧ Aside0 (spec_l08DrawOk.j0 kq x4_5 s0_0 t634 t635 y614 y617 y620 t623 t627 = some (r1, r2, r3, r4, r5, r6, r7)) ∧ Aside0 (kq ≤ k) ∧ Aside0 (Kd.R k79 79 wc w.heap.size (fun _ => True) (.slice Ao17 y614.length co17) y614) ∧ Aside0 (Kd.R (Kd.int .i64) 2 wc w.heap.size (fun k_ => some k_ ≠ ((.slice Ao15 y620.length co15) : Value).ownBlock) (.slice Ao16 y617.length co16) y617) ∧ Aside0 (Kd.R (Kd.int .i64) 2 wc w.heap.size (fun k_ => some k_ ≠ ((.slice Ao16 y617.length co16) : Value).ownBlock) (.slice Ao15 y620.length co15) y620) ∧ Aside0 (wc.heap[gb613]? = some (.cells #[(.slice none 0 0), (.slice none 0 0), (.slice none 0 0), .int .i64 0, .int .i64 0] 64 (0, 0))) ∧ Aside0 (wc.heap[gb626]? = some (.cells #[(.slice Ao17 y614.length co17), (.slice Ao16 y617.length co16), (.slice Ao15 y620.length co15), .int .i64 t623, .int .i64 t627] 64 (0, 0))) ∧ Aside0 (IsS168 w0 wc g s0_0 t634 t635) ∧ Aside0 (KeepBut w wc g none) ∧ Aside0 (Below w0.heap.size w0 wc))
 case first =>
  have H := HC6.out
  clear HC6
  by_cases c26 : t633 = true
  ·subst c26
   have H1 : (spec_l08DrawOk.j0 k 60 s0_0 t634 t635 y614 y617 y620 t623 t627) = some (r1, r2, r3, r4, r5, r6, r7) := by rw [if_pos rfl] at H; exact H
   clear H
   have H := H1
   clear H1
   have H' := Aside0.mk H
   clear H
   go_wp2
   go_meet
   case rel => exact ⟨_, (60), (by first | rfl | (simp; done) | (simp [*]; done) | (simp [Int.tdiv_eq_ediv_of_nonneg, *]; done)), H', ⟨by first | omega | exact Nat.le_refl _⟩, ⟨by (with_reducible repeat (first | apply Kd.R_alloc | apply Kd.R_drewN | apply Kd.R_drew)); exact HO616.out⟩, ⟨by (with_reducible repeat (first | apply Kd.R_alloc | apply Kd.R_drewN | apply Kd.R_drew)); exact Kd.R_mono HO619.out (fun _ hk => hk.2)⟩, ⟨by (with_reducible repeat (first | apply Kd.R_alloc | apply Kd.R_drewN | apply Kd.R_drew)); exact Kd.R_mono HO622.out (fun _ hk => hk.2)⟩, ⟨by (with_reducible repeat (first | refine blk_drewN ?_ _ | refine blk_drew ?_ | refine blk_alloc ?_ _)); exact BK613.out⟩, ⟨by (with_reducible repeat (first | refine blk_drewN ?_ _ | refine blk_drew ?_ | refine blk_alloc ?_ _)); exact BK626.out⟩, ⟨by repeat (first | (with_reducible first | exact HI0.out | apply IsS168.alloc | apply IsS168.drewN | apply IsS168.drew | refine IsS168.far ?_ NB0_613.out _ | refine IsS168.far ?_ NB0_626.out _) | exact HI0.out)⟩, ⟨by repeat (first | (with_reducible first | exact HK.out | apply KeepBut.set_ | apply keep_drewN | apply keep_drew | apply keep_alloc | refine keep_far ?_ GW613.out _ | refine keep_far ?_ GW626.out _) | exact HK.out)⟩, ⟨by repeat (first | (with_reducible first | exact HB.out | apply below_alloc | apply pw_below_drewN | apply below_drew1 | refine below_set ?_ (IsS168.ge HI0.out) | refine below_set ?_ GE613.out | refine below_set ?_ GE626.out) | exact HB.out)⟩⟩
  ·replace c26 := Bool.eq_false_iff.mpr c26
   subst c26
   have H1 : (spec_l08DrawOk.j0 k t630 s0_0 t634 t635 y614 y617 y620 t623 t627) = some (r1, r2, r3, r4, r5, r6, r7) := by rw [if_neg (show ¬ (false = true) by decide)] at H; exact H
   clear H
   have H := H1
   clear H1
   have H' := Aside0.mk H
   clear H
   go_wp2
   go_meet
   case rel => exact ⟨_, (t630), (by first | rfl | (simp; done) | (simp [*]; done) | (simp [Int.tdiv_eq_ediv_of_nonneg, *]; done)), H', ⟨by first | omega | exact Nat.le_refl _⟩, ⟨by (with_reducible repeat (first | apply Kd.R_alloc | apply Kd.R_drewN | apply Kd.R_drew)); exact HO616.out⟩, ⟨by (with_reducible repeat (first | apply Kd.R_alloc | apply Kd.R_drewN | apply Kd.R_drew)); exact Kd.R_mono HO619.out (fun _ hk => hk.2)⟩, ⟨by (with_reducible repeat (first | apply Kd.R_alloc | apply Kd.R_drewN | apply Kd.R_drew)); exact Kd.R_mono HO622.out (fun _ hk => hk.2)⟩, ⟨by (with_reducible repeat (first | refine blk_drewN ?_ _ | refine blk_drew ?_ | refine blk_alloc ?_ _)); exact BK613.out⟩, ⟨by (with_reducible repeat (first | refine blk_drewN ?_ _ | refine blk_drew ?_ | refine blk_alloc ?_ _)); exact BK626.out⟩, ⟨by repeat (first | (with_reducible first | exact HI0.out | apply IsS168.alloc | apply IsS168.drewN | apply IsS168.drew | refine IsS168.far ?_ NB0_613.out _ | refine IsS168.far ?_ NB0_626.out _) | exact HI0.out)⟩, ⟨by repeat (first | (with_reducible first | exact HK.out | apply KeepBut.set_ | apply keep_drewN | apply keep_drew | apply keep_alloc | refine keep_far ?_ GW613.out _ | refine keep_far ?_ GW626.out _) | exact HK.out)⟩, ⟨by repeat (first | (with_reducible first | exact HB.out | apply below_alloc | apply pw_below_drewN | apply below_drew1 | refine below_set ?_ (IsS168.ge HI0.out) | refine below_set ?_ GE613.out | refine below_set ?_ GE626.out) | exact HB.out)⟩⟩
 case rest =>
  clear HC6
  try clear c1
  try clear c2
  try clear p2
  try clear c7
  try clear c10
  try clear c19
  try clear c20
  try clear c26
  try clear hcz21_0
  try clear hcz21_1
  try clear hcz21_2
  try clear hcz21_3
  try clear hcz21_4
  try clear hcz23_0
  try clear hcz23_1
  try clear hcz23_2
  try clear hcz23_3
  try clear hcz23_4
  try clear hfz21_0
  try clear hfz21_1
  try clear hfz21_2
  try clear hfz21_3
  try clear hfz21_4
  try clear hfz23_0
  try clear hfz23_1
  try clear hfz23_2
  try clear hfz23_3
  try clear hfz23_4
  obtain ⟨kq, x4_5, rfl, HA, HJ5, HO_627000, HO_627001, HO_627002, BK613, BK626, HI0, HK, HB⟩ := hcut
  cases kq with
  | zero => exact absurd HA.out (by simp [spec_l08DrawOk.j0])
  | succ kj5 =>
   have H := HA.out
   clear HA
   simp only [spec_l08DrawOk.j0] at H
   have H' := Aside0.mk H
   clear H
   go_wp2
   go_loopg [5] kj5 (fun kq v5 w' => ∃ (x5_2 : Int) (x1001_2 : Int) (x1002_2 : Int) (x627001_2 : List Int) (x627002_2 : List Int) (u627001 : Value) (u627002 : Value), v5 = .int .i64 x5_2 ∧ Aside0 (spec_l08DrawOk.l0 kq x4_5 x5_2 s0_0 x1001_2 x1002_2 y614 x627001_2 x627002_2 t623 t627 = some (r1, r2, r3, r4, r5, r6, r7)) ∧ Aside0 (kq ≤ kj5) ∧ Aside0 (Kd.R k79 79 w' w.heap.size (fun _ => True) (.slice Ao17 y614.length co17) y614) ∧ Aside0 (Kd.R (Kd.int .i64) 2 w' w.heap.size (fun k_ => some k_ ≠ (u627002 : Value).ownBlock) u627001 x627001_2) ∧ Aside0 (Kd.R (Kd.int .i64) 2 w' w.heap.size (fun k_ => some k_ ≠ (u627001 : Value).ownBlock) u627002 x627002_2) ∧ Aside0 (w'.heap[gb613]? = some (.cells #[(.slice none 0 0), (.slice none 0 0), (.slice none 0 0), .int .i64 0, .int .i64 0] 64 (0, 0))) ∧ Aside0 (w'.heap[gb626]? = some (.cells #[(.slice Ao17 y614.length co17), u627001, u627002, .int .i64 t623, .int .i64 t627] 64 (0, 0))) ∧ Aside0 (IsS168 w0 w' g s0_0 x1001_2 x1002_2) ∧ Aside0 (KeepBut w w' g none) ∧ Aside0 (Below w0.heap.size w0 w'))
   case atStart => exact ⟨(0), (t634), (t635), (y617), (y620), (.slice Ao16 y617.length co16), (.slice Ao15 y620.length co15), (by first | rfl | (simp; done) | (simp [*]; done) | (simp [Int.tdiv_eq_ediv_of_nonneg, *]; done)), H', ⟨Nat.le_refl _⟩, ⟨by (with_reducible repeat (first | apply Kd.R_alloc | apply Kd.R_drewN | apply Kd.R_drew)); exact HO_627000.out⟩, ⟨by (with_reducible repeat (first | apply Kd.R_alloc | apply Kd.R_drewN | apply Kd.R_drew)); exact HO_627001.out⟩, ⟨by (with_reducible repeat (first | apply Kd.R_alloc | apply Kd.R_drewN | apply Kd.R_drew)); exact HO_627002.out⟩, ⟨by (with_reducible repeat (first | refine blk_drewN ?_ _ | refine blk_drew ?_ | refine blk_alloc ?_ _)); exact BK613.out⟩, ⟨by (with_reducible repeat (first | refine blk_drewN ?_ _ | refine blk_drew ?_ | refine blk_alloc ?_ _)); exact BK626.out⟩, ⟨by repeat (first | (with_reducible first | exact HI0.out | apply IsS168.alloc | apply IsS168.drewN | apply IsS168.drew | refine IsS168.far ?_ NB0_613.out _ | refine IsS168.far ?_ NB0_626.out _) | exact HI0.out)⟩, ⟨by repeat (first | (with_reducible first | exact HK.out | apply KeepBut.set_ | apply keep_drewN | apply keep_drew | apply keep_alloc | refine keep_far ?_ GW613.out _ | refine keep_far ?_ GW626.out _) | exact HK.out)⟩, ⟨by repeat (first | (with_reducible first | exact HB.out | apply below_alloc | apply pw_below_drewN | apply below_drew1 | refine below_set ?_ (IsS168.ge HI0.out) | refine below_set ?_ GE613.out | refine below_set ?_ GE626.out) | exact HB.out)⟩⟩
   case round =>
    clear H'
    try clear c1
    try clear c2
    try clear p2
    try clear c7
    try clear c10
    try clear c19
    try clear c20
    try clear c26
    try clear hcz21_0
    try clear hcz21_1
    try clear hcz21_2
    try clear hcz21_3
    try clear hcz21_4
    try clear hcz23_0
    try clear hcz23_1
    try clear hcz23_2
    try clear hcz23_3
    try clear hcz23_4
    try clear hfz21_0
    try clear hfz21_1
    try clear hfz21_2
    try clear hfz21_3
    try clear hfz21_4
    try clear hfz23_0
    try clear hfz23_1
    try clear hfz23_2
    try clear hfz23_3
    try clear hfz23_4
    try clear p2
    obtain ⟨x5_2, x1001_2, x1002_2, x627001_2, x627002_2, u627001, u627002, rfl, HA, HK2, HO_627000, HO_627001, HO_627002, BK613, BK626, HI0, HK, HB⟩ := hrel
    cases gk with
    | zero => exact absurd HA.out (by simp [spec_l08DrawOk.l0])
    | succ k2 =>
     have H := HA.out
     clear HA
     simp only [spec_l08DrawOk.l0] at H
     by_cases c27 : x5_2 < x4_5
     ·rw [if_pos c27] at H
      have c27b0 : decide (x5_2 < x4_5) = true := decide_eq_true c27
      clear c27
      replace H := Option.bind_eq_some_iff.mp H
      obtain ⟨⟨t636, t637, t638⟩, A280, H⟩ := H
      replace H : (if x627001_2.length < 17592186044416 then ((some (x627001_2 ++ [t636] : List Int)).bind fun y639 => (if (x627002_2.length : Int) < 5 then ((spec_l00Src_one.f s0_0 t637 t638 2).bind fun bt642 => (if bt642.1 = true then (if x627002_2.length < 17592186044416 then (spec_l08DrawOk.l0 k2 x4_5 (wrap64 (x5_2 + 1)) s0_0 bt642.2.1 bt642.2.2 y614 y639 (x627002_2 ++ [x5_2]) t623 t627) else (none)) else (spec_l08DrawOk.l0 k2 x4_5 (wrap64 (x5_2 + 1)) s0_0 bt642.2.1 bt642.2.2 y614 y639 x627002_2 t623 t627))) else (spec_l08DrawOk.l0 k2 x4_5 (wrap64 (x5_2 + 1)) s0_0 t637 t638 y614 y639 x627002_2 t623 t627))) else (none)) = some (r1, r2, r3, r4, r5, r6, r7) := H
      have A28 := Aside0.mk A280
      clear A280
      by_cases c29 : x627001_2.length < 17592186044416
      ·rw [if_pos c29] at H
       have LMc29 := Aside0.mk c29
       clear c29
       obtain ⟨y639, hy639⟩ : ∃ y_ : List Int, y_ = (x627001_2 ++ [t636]) := ⟨_, rfl⟩
       replace H : (if (x627002_2.length : Int) < 5 then ((spec_l00Src_one.f s0_0 t637 t638 2).bind fun bt642 => (if bt642.1 = true then (if x627002_2.length < 17592186044416 then (spec_l08DrawOk.l0 k2 x4_5 (wrap64 (x5_2 + 1)) s0_0 bt642.2.1 bt642.2.2 y614 y639 (x627002_2 ++ [x5_2]) t623 t627) else (none)) else (spec_l08DrawOk.l0 k2 x4_5 (wrap64 (x5_2 + 1)) s0_0 bt642.2.1 bt642.2.2 y614 y639 x627002_2 t623 t627))) else (spec_l08DrawOk.l0 k2 x4_5 (wrap64 (x5_2 + 1)) s0_0 t637 t638 y614 y639 x627002_2 t623 t627)) = some (r1, r2, r3, r4, r5, r6, r7) := by first | (rw [hy639]; with_reducible exact H) | (have H2_ := (Option.bind_some _ _).symm.trans H; rw [hy639]; with_reducible exact H2_) | (have H2_ := (Option.bind_some _ _).symm.trans H; with_reducible exact H2_) | with_reducible exact H | (rw [hy639]; exact H) | exact H
       have Ny639 := Aside0.mk hy639
       clear hy639
       by_cases c30 : (x627002_2.length : Int) < 5
       ·rw [if_pos c30] at H
        have c30b0 : decide ((x627002_2.length : Int) < 5) = true := decide_eq_true c30
        have c30b1 : decide (x627002_2.length < 5) = true := decide_eq_true (by omega)
        clear c30
        replace H := Option.bind_eq_some_iff.mp H
        obtain ⟨⟨t642, t643, t644⟩, A310, H⟩ := H
        replace H : (if t642 = true then (if x627002_2.length < 17592186044416 then (spec_l08DrawOk.l0 k2 x4_5 (wrap64 (x5_2 + 1)) s0_0 t643 t644 y614 y639 (x627002_2 ++ [x5_2]) t623 t627) else (none)) else (spec_l08DrawOk.l0 k2 x4_5 (wrap64 (x5_2 + 1)) s0_0 t643 t644 y614 y639 x627002_2 t623 t627)) = some (r1, r2, r3, r4, r5, r6, r7) := H
        have A31 := Aside0.mk A310
        clear A310
        by_cases c32 : t642 = true
        ·subst c32
         have H1 : (if x627002_2.length < 17592186044416 then (spec_l08DrawOk.l0 k2 x4_5 (wrap64 (x5_2 + 1)) s0_0 t643 t644 y614 y639 (x627002_2 ++ [x5_2]) t623 t627) else (none)) = some (r1, r2, r3, r4, r5, r6, r7) := by rw [if_pos rfl] at H; exact H
         clear H
         have H := H1
         clear H1
         by_cases c33 : x627002_2.length < 17592186044416
         ·rw [if_pos c33] at H
          have LMc33 := Aside0.mk c33
          clear c33
          obtain ⟨y645, hy645⟩ : ∃ y_ : List Int, y_ = (x627002_2 ++ [x5_2]) := ⟨_, rfl⟩
          replace H : (spec_l08DrawOk.l0 k2 x4_5 (wrap64 (x5_2 + 1)) s0_0 t643 t644 y614 y639 y645 t623 t627) = some (r1, r2, r3, r4, r5, r6, r7) := by first | (rw [hy645]; with_reducible exact H) | (have H2_ := (Option.bind_some _ _).symm.trans H; rw [hy645]; with_reducible exact H2_) | (have H2_ := (Option.bind_some _ _).symm.trans H; with_reducible exact H2_) | with_reducible exact H | (rw [hy645]; exact H) | exact H
          have Ny645 := Aside0.mk hy645
          clear hy645
          have H' := Aside0.mk H
          clear H
          try go_wp2
          have n0_ := Aside0.mk (Kd.R_drew HO_627000.out)
          have n1_ := Aside0.mk (Kd.R_drew HO_627001.out)
          have n2_ := Aside0.mk (Kd.R_drew HO_627002.out)
          have n3_ := Aside0.mk (blk_drew BK613.out)
          have n4_ := Aside0.mk (blk_drew BK626.out)
          have n5_ := Aside0.mk (IsS168.drew HI0.out)
          have n6_ := Aside0.mk (keep_drew HK.out)
          have n7_ := Aside0.mk (below_drew1 HB.out)
          clear HO_627000
          clear HO_627001
          clear HO_627002
          clear BK613
          clear BK626
          clear HI0
          clear HK
          clear HB
          have HO_627000 := n0_
          have HO_627001 := n1_
          have HO_627002 := n2_
          have BK613 := n3_
          have BK626 := n4_
          have HI0 := n5_
          have HK := n6_
          have HB := n7_
          clear n0_ n1_ n2_ n3_ n4_ n5_ n6_ n7_
          refine start_ (n := 8) (S := fun w' => w'.cell? ⟨gb626, 0, none⟩ = some (.slice Ao17 y614.length co17) ∧ w'.cell? ⟨gb626, 1, none⟩ = some (u627001) ∧ w'.cell? ⟨gb626, 2, none⟩ = some (u627002) ∧ w'.cell? ⟨gb626, 3, none⟩ = some (.int .i64 t623) ∧ w'.cell? ⟨gb626, 4, none⟩ = some (.int .i64 t627)) (ds := [7]) #[false, false, false, false, false, false, false, false] (by kernel_rfl) rfl rfl ⟨(blk_cell BK626.out 0).trans rfl, (blk_cell BK626.out 1).trans rfl, (blk_cell BK626.out 2).trans rfl, (blk_cell BK626.out 3).trans rfl, (blk_cell BK626.out 4).trans rfl⟩ (fun hHeld => ?_); refine with_tabW spec_l08DrawOk.tab9 spec_l08DrawOk.bits9 (fun HT_ HW_ => ?_)
          generalize wr.drew = w34 at HO_627000 HO_627001 HO_627002 BK613 BK626 HI0 HK HB hHeld ⊢
          refine pure_ (i := 0) (N := some 26) (v := ?_) (a' := ?_) #[true, false, false, false, false, false, false, false] rfl rfl (any_of HT_.out (by kernel_rfl)) (fun _ _ _ h => h) (Or.inl ⟨by rfl, ?_⟩) ?_ ?_
          rotate_left
          ·intro w'
           go_simp
           with_reducible rfl
          rotate_left
          ·simp only [Act.put, List.setIfInBounds_toArray, List.set_cons_zero, List.set_cons_succ, i64_w, i32_w]
           rfl
          refine pure_ (i := 2) (N := some 28) (v := ?_) (a' := ?_) #[true, false, true, false, false, false, false, false] rfl rfl (any_of HT_.out (by kernel_rfl)) (fun _ _ _ h => h) (Or.inl ⟨by rfl, ?_⟩) ?_ ?_
          rotate_left
          ·intro w'
           go_simp
           with_reducible rfl
          rotate_left
          ·simp only [Act.put, List.setIfInBounds_toArray, List.set_cons_zero, List.set_cons_succ, i64_w, i32_w]
           rfl
          refine take_ (i := 1) (N := some 27) (v := ?_) (a' := ?_) #[true, true, true, false, false, false, false, false] rfl rfl (take_ofW HT_.out HW_.out (by kernel_rfl)) (fun _ _ _ h => h) (Or.inl ⟨by rfl, ?_⟩) hHeld ?_ ?_
          rotate_left
          ·rintro w' ⟨s0, s1, s2, s3, s4⟩
           go_simp
           with_reducible rfl
          rotate_left
          ·simp only [Act.put, List.setIfInBounds_toArray, List.set_cons_zero, List.set_cons_succ, i64_w, i32_w]
           rfl
          refine one_ (i := 3) (N := some 29) #[true, true, true, true, false, false, false, false] rfl rfl (one_of HT_.out (by kernel_rfl)) (by decide) (fun K hK => ?_)
          refine goes_ Try.func74 (by kernel_rfl) rfl #[.pointer (some ⟨g, 0, none⟩), .int .i64 8] (by rfl) rfl rfl (by (try simp only [List.map_toArray, List.map_cons, List.map_nil]); first | done | rfl | (simp only [List.length_drop, List.length_take]; rfl)) ?_
          with_reducible refine (spec_l00Src_pick.calls g s0_0 x1001_2 x1002_2 8 t636 t637 t638 w0 _ ?side1 ?side2 A28.out).mono ?_
          (case side1 => repeat (first | (with_reducible first | exact HI0.out | apply IsS168.alloc | apply IsS168.drewN | apply IsS168.drew | refine IsS168.far ?_ NB0_613.out _ | refine IsS168.far ?_ NB0_626.out _) | exact HI0.out))
          (case side2 => repeat (first | (with_reducible first | exact HB.out | apply below_alloc | apply pw_below_drewN | apply below_drew1 | refine below_set ?_ (IsS168.ge HI0.out) | refine below_set ?_ GE613.out | refine below_set ?_ GE626.out) | exact HB.out))
          rintro e w35 ⟨rfl, hi, hb, hk⟩
          refine ⟨_, rfl, ?_⟩
          have n0_ := Aside0.mk (Kd.R_mono (Kd.R_keep (IsS168.apart (show IsS168 w0 _ g s0_0 x1001_2 x1002_2 from by repeat (first | (with_reducible first | exact HI0.out | apply IsS168.alloc | apply IsS168.drewN | apply IsS168.drew | refine IsS168.far ?_ NB0_613.out _ | refine IsS168.far ?_ NB0_626.out _) | exact HI0.out)) (by (with_reducible repeat (first | apply Kd.R_alloc | apply Kd.R_drewN | apply Kd.R_drew)); exact HO_627000.out) (by decide)) hk (fun _ h => h.2)) (fun _ h => h.1))
          have n1_ := Aside0.mk (Kd.R_mono (Kd.R_keep (IsS168.apart (show IsS168 w0 _ g s0_0 x1001_2 x1002_2 from by repeat (first | (with_reducible first | exact HI0.out | apply IsS168.alloc | apply IsS168.drewN | apply IsS168.drew | refine IsS168.far ?_ NB0_613.out _ | refine IsS168.far ?_ NB0_626.out _) | exact HI0.out)) (by (with_reducible repeat (first | apply Kd.R_alloc | apply Kd.R_drewN | apply Kd.R_drew)); exact HO_627001.out) (by decide)) hk (fun _ h => h.2)) (fun _ h => h.1))
          have n2_ := Aside0.mk (Kd.R_mono (Kd.R_keep (IsS168.apart (show IsS168 w0 _ g s0_0 x1001_2 x1002_2 from by repeat (first | (with_reducible first | exact HI0.out | apply IsS168.alloc | apply IsS168.drewN | apply IsS168.drew | refine IsS168.far ?_ NB0_613.out _ | refine IsS168.far ?_ NB0_626.out _) | exact HI0.out)) (by (with_reducible repeat (first | apply Kd.R_alloc | apply Kd.R_drewN | apply Kd.R_drew)); exact HO_627002.out) (by decide)) hk (fun _ h => h.2)) (fun _ h => h.1))
          have n3_ := Aside0.mk (KeepBut.blk hk (g' := gb613) (o := .cells #[.slice none 0 0, .slice none 0 0, .slice none 0 0, .int .i64 0, .int .i64 0] 64 (0, 0)) (by (with_reducible repeat (first | refine blk_drewN ?_ _ | refine blk_drew ?_ | refine blk_alloc ?_ _)); exact BK613.out) NB613_0.out (by simp))
          have n4_ := Aside0.mk (KeepBut.blk hk (g' := gb626) (o := .cells #[.slice Ao17 y614.length co17, u627001, u627002, .int .i64 t623, .int .i64 t627] 64 (0, 0)) (by (with_reducible repeat (first | refine blk_drewN ?_ _ | refine blk_drew ?_ | refine blk_alloc ?_ _)); exact BK626.out) NB626_0.out (by simp))
          have n5_ := Aside0.mk (KeepBut.trans (by repeat (first | (with_reducible first | exact HK.out | apply KeepBut.set_ | apply keep_drewN | apply keep_drew | apply keep_alloc | refine keep_far ?_ GW613.out _ | refine keep_far ?_ GW626.out _) | exact HK.out)) hk (.inl rfl))
          have n6_ := Aside0.mk (hb)
          have n7_ := Aside0.mk (hi)
          clear HO_627000
          clear HO_627001
          clear HO_627002
          clear BK613
          clear BK626
          clear HK
          clear HB
          clear HI0
          have HO_627000 := n0_
          have HO_627001 := n1_
          have HO_627002 := n2_
          have BK613 := n3_
          have BK626 := n4_
          have HK := n5_
          have HB := n6_
          have HI0 := n7_
          clear n0_ n1_ n2_ n3_ n4_ n5_ n6_ n7_
          (try clear hb)
          (try clear hb2)
          (try clear hk)
          (try clear hi)
          refine hK.out _ _ ⟨(blk_cell BK626.out 0).trans rfl, (blk_cell BK626.out 1).trans rfl, (blk_cell BK626.out 2).trans rfl, (blk_cell BK626.out 3).trans rfl, (blk_cell BK626.out 4).trans rfl⟩ (fun hHeld => ?_)
          clear hK K
          refine norm_ (a' := ?_) ?_ ?_
          rotate_left
          ·show Act.put _ (some 29) _ = _
           simp only [Act.put, List.setIfInBounds_toArray, List.set_cons_zero, List.set_cons_succ, i64_w, i32_w]
           rfl
          refine one_ (i := 4) (N := some 30) #[true, true, true, true, true, false, false, false] rfl rfl (one_of HT_.out (by kernel_rfl)) (by decide) (fun K hK => ?_)
          refine value_ (w1 := ?_) (v := ?_) (by rfl) rfl ?_ ?_
          rotate_left 2
          ·go_simp
           constructor
           ·rfl
           ·rfl
          refine hK.out _ _ ⟨(blk_cell (blk_alloc BK626.out _) 0).trans rfl, (blk_cell (blk_alloc BK626.out _) 1).trans rfl, (blk_cell (blk_alloc BK626.out _) 2).trans rfl, (blk_cell (blk_alloc BK626.out _) 3).trans rfl, (blk_cell (blk_alloc BK626.out _) 4).trans rfl⟩ (fun hHeld => ?_)
          clear hK K
          refine norm_ (a' := ?_) ?_ ?_
          rotate_left
          ·show Act.put _ (some 30) _ = _
           simp only [Act.put, List.setIfInBounds_toArray, List.set_cons_zero, List.set_cons_succ, i64_w, i32_w]
           rfl
          refine one_ (i := 5) (N := some 31) #[true, true, true, true, true, true, false, false] rfl rfl (one_of HT_.out (by kernel_rfl)) (by decide) (fun K hK => ?_)
          refine Kd.R_append_step (Kd.int .i64) w.heap.size (by rfl) (.tmp 27) (.tmp 30) 24 2 (.int .i64 0) 8 rfl Try.underlying24 info2 rfl (by decide) (by omega) u627001 x627001_2 t636 [.int .i64 t636] (fun k_ => some k_ ≠ (u627002 : Value).ownBlock) (fun _ => False) rfl rfl ?aP (fun _ hk => hk.elim) ?aF ?aO (Below.refl _ _) ?aS ?aL ?_
          (case aP => exact rfl)
          (case aF => exact (fun k_ hk => Kd.fresh' (Kd.R_lt (by (with_reducible repeat (first | apply Kd.R_alloc | apply Kd.R_drewN | apply Kd.R_drew)); exact HO_627002.out)) k_ hk))
          (case aO => exact (by (with_reducible repeat (first | apply Kd.R_alloc | apply Kd.R_drewN | apply Kd.R_drew)); exact HO_627001.out))
          (case aS => exact (keep_size (w := w) (g := g) (row := none) (by repeat (first | (with_reducible first | exact HK.out | apply KeepBut.set_ | apply keep_drewN | apply keep_drew | apply keep_alloc | refine keep_far ?_ GW613.out _ | refine keep_far ?_ GW626.out _) | exact HK.out))))
          (case aL => have := LMc29.out; omega)
          intro v640 w36 ho hb hg hat
          rw [← Ny639.out] at ho
          have n0_ := Aside0.mk (Kd.R_over' (by (with_reducible repeat (first | apply Kd.R_alloc | apply Kd.R_drewN | apply Kd.R_drew)); exact HO_627000.out) (Kd.R_typed (by (with_reducible repeat (first | apply Kd.R_alloc | apply Kd.R_drewN | apply Kd.R_drew)); exact HO_627001.out)) (by decide) hg)
          have n1_ := Aside0.mk (Kd.R_after (ok := (fun _ => True)) (by (with_reducible repeat (first | apply Kd.R_alloc | apply Kd.R_drewN | apply Kd.R_drew)); exact Kd.R_mono HO_627002.out (fun _ hk => ⟨trivial, hk⟩)) hg hat)
          have n2_ := Aside0.mk (blk_grown (g := gb613) (o := .cells #[.slice none 0 0, .slice none 0 0, .slice none 0 0, .int .i64 0, .int .i64 0] 64 (0, 0)) (by (with_reducible repeat (first | refine blk_drewN ?_ _ | refine blk_drew ?_ | refine blk_alloc ?_ _)); exact BK613.out) hg (Kd.R_ne HO_627001.out BK613.out (by decide)))
          have n3_ := Aside0.mk (blk_grown (g := gb626) (o := .cells #[.slice Ao17 y614.length co17, u627001, u627002, .int .i64 t623, .int .i64 t627] 64 (0, 0)) (by (with_reducible repeat (first | refine blk_drewN ?_ _ | refine blk_drew ?_ | refine blk_alloc ?_ _)); exact BK626.out) hg (Kd.R_ne HO_627001.out BK626.out (by decide)))
          have n4_ := Aside0.mk (IsS168.grown (by repeat (first | (with_reducible first | exact HI0.out | apply IsS168.alloc | apply IsS168.drewN | apply IsS168.drew | refine IsS168.far ?_ NB0_613.out _ | refine IsS168.far ?_ NB0_626.out _) | exact HI0.out)) hg (IsS168.own_ne HI0.out HO_627001.out (by decide)))
          have n5_ := Aside0.mk (below_weaken (by repeat (first | (with_reducible first | exact HB.out | apply below_alloc | apply pw_below_drewN | apply below_drew1 | refine below_set ?_ (IsS168.ge HI0.out) | refine below_set ?_ GE613.out | refine below_set ?_ GE626.out) | exact HB.out)) HL.out hb)
          have n6_ := Aside0.mk (KeepBut.trans (by repeat (first | (with_reducible first | exact HK.out | apply KeepBut.set_ | apply keep_drewN | apply keep_drew | apply keep_alloc | refine keep_far ?_ GW613.out _ | refine keep_far ?_ GW626.out _) | exact HK.out)) (KeepBut.of_grown hg g) (Kd.R_base2 HO_627001.out))
          have n7_ := Aside0.mk (ho)
          clear HO_627000
          clear HO_627002
          clear BK613
          clear BK626
          clear HI0
          clear HB
          clear HK
          clear HO_627001
          have HO_627000 := n0_
          have HO_627002 := n1_
          have BK613 := n2_
          have BK626 := n3_
          have HI0 := n4_
          have HB := n5_
          have HK := n6_
          have HO641 := n7_
          clear n0_ n1_ n2_ n3_ n4_ n5_ n6_ n7_
          clear ho hb hg hat
          obtain ⟨Ao37, co37, eo37⟩ := Kd.R_slice HO641.out
          (first | subst eo37 | (injection eo37 with f1_ f2_ f3_; have f4_ := f1_.symm; have f5_ := f3_.symm; clear f1_ f2_ f3_; subst f4_; subst f5_))
          refine hK.out _ _ ⟨(blk_cell BK626.out 0).trans rfl, (blk_cell BK626.out 1).trans rfl, (blk_cell BK626.out 2).trans rfl, (blk_cell BK626.out 3).trans rfl, (blk_cell BK626.out 4).trans rfl⟩ (fun hHeld => ?_)
          clear hK K
          refine norm_ (a' := ?_) ?_ ?_
          rotate_left
          ·show Act.put _ (some 31) _ = _
           simp only [Act.put, List.setIfInBounds_toArray, List.set_cons_zero, List.set_cons_succ, i64_w, i32_w]
           rfl
          refine pure_ (i := 6) (N := some 32) (v := ?_) (a' := ?_) #[true, true, true, true, true, true, true, false] rfl rfl (any_of HT_.out (by kernel_rfl)) (fun _ _ _ h => h) (Or.inl ⟨by rfl, ?_⟩) ?_ ?_
          rotate_left
          ·intro w'
           go_simp
           with_reducible rfl
          rotate_left
          ·simp only [Act.put, List.setIfInBounds_toArray, List.set_cons_zero, List.set_cons_succ, i64_w, i32_w]
           rfl
          refine last_ (i := 7) (N := none) #[true, true, true, true, true, true, true, true] rfl rfl (one_of HT_.out (by kernel_rfl)) (by decide) (fun K hK => ?_)
          have hs38 : w36.cell? ⟨gb626, 1, none⟩ = some (u627001) := (blk_cell BK626.out 1).trans rfl
          have hfs38 := blk_frozen BK626.out 1
          have hns38_0 := NB613_626.out
          have hms38_0 := NB626_613.out
          refine skip_ (w1 := ?_) (by rfl) rfl ?_ ?_
          rotate_left
          ·go_simp
           rfl
          refine hK.out _ _ ?_
          clear hK K
          refine done_ (done_of HT_.out (by kernel_rfl)) ?_
          have hnb39 := NB626_613.out
          have hnc39 := NB613_626.out
          have hnb40 := NB626_0.out
          have hnc40 := NB0_626.out
          have hcz41_0 : w36.cell? ⟨gb626, 0, none⟩ = some (.slice Ao17 y614.length co17) := (blk_cell BK626.out 0).trans rfl
          have hcz41_1 : w36.cell? ⟨gb626, 1, none⟩ = some (u627001) := (blk_cell BK626.out 1).trans rfl
          have hcz41_2 : w36.cell? ⟨gb626, 2, none⟩ = some (u627002) := (blk_cell BK626.out 2).trans rfl
          have hcz41_3 : w36.cell? ⟨gb626, 3, none⟩ = some (.int .i64 t623) := (blk_cell BK626.out 3).trans rfl
          have hcz41_4 : w36.cell? ⟨gb626, 4, none⟩ = some (.int .i64 t627) := (blk_cell BK626.out 4).trans rfl
          have hfz41_0 := blk_frozen BK626.out 0
          have hfz41_1 := blk_frozen BK626.out 1
          have hfz41_2 := blk_frozen BK626.out 2
          have hfz41_3 := blk_frozen BK626.out 3
          have hfz41_4 := blk_frozen BK626.out 4
          obtain ⟨Ao42, co42, eo42⟩ := Kd.R_slice HO_627002.out
          subst eo42
          try go_wp2_with (first | (go_at_call 103; (with_reducible refine (spec_l00Src_one.calls g s0_0 t637 t638 2 true t643 t644 w0 _ ?side1 ?side2 A31.out).mono ?_); (case side1 => repeat (first | (with_reducible first | exact HI0.out | apply IsS168.alloc | apply IsS168.drewN | apply IsS168.drew | refine IsS168.far ?_ NB0_613.out _ | refine IsS168.far ?_ NB0_626.out _) | exact HI0.out)); (case side2 => repeat (first | (with_reducible first | exact HB.out | apply below_alloc | apply pw_below_drewN | apply below_drew1 | refine below_set ?_ (IsS168.ge HI0.out) | refine below_set ?_ GE613.out | refine below_set ?_ GE626.out) | exact HB.out)); rintro e w43 ⟨rfl, hi, hb, hk⟩; have n0_ := Aside0.mk (Kd.R_mono (Kd.R_keep (IsS168.apart (show IsS168 w0 _ g s0_0 t637 t638 from by repeat (first | (with_reducible first | exact HI0.out | apply IsS168.alloc | apply IsS168.drewN | apply IsS168.drew | refine IsS168.far ?_ NB0_613.out _ | refine IsS168.far ?_ NB0_626.out _) | exact HI0.out)) (by (with_reducible repeat (first | apply Kd.R_alloc | apply Kd.R_drewN | apply Kd.R_drew)); exact (Kd.R_mono (Kd.R_far (p := ⟨gb626, 1, none⟩) (Kd.R_types HO_627000.out BK626.out (by decide)) (fun _ hk => hk.2) (.slice Ao37 y639.length co37)) (fun _ h_ => h_.1))) (by decide)) hk (fun _ h => h.2)) (fun _ h => h.1)); have n1_ := Aside0.mk (Kd.R_mono (Kd.R_keep (IsS168.apart (show IsS168 w0 _ g s0_0 t637 t638 from by repeat (first | (with_reducible first | exact HI0.out | apply IsS168.alloc | apply IsS168.drewN | apply IsS168.drew | refine IsS168.far ?_ NB0_613.out _ | refine IsS168.far ?_ NB0_626.out _) | exact HI0.out)) (by (with_reducible repeat (first | apply Kd.R_alloc | apply Kd.R_drewN | apply Kd.R_drew)); exact (Kd.R_mono (Kd.R_far (p := ⟨gb626, 1, none⟩) (Kd.R_types HO_627002.out BK626.out (by decide)) (fun _ hk => hk.2) (.slice Ao37 y639.length co37)) (fun _ h_ => h_.1))) (by decide)) hk (fun _ h => h.2)) (fun _ h => h.1)); have n2_ := Aside0.mk (KeepBut.blk hk (g' := gb613) (o := .cells #[.slice none 0 0, .slice none 0 0, .slice none 0 0, .int .i64 0, .int .i64 0] 64 (0, 0)) (by (with_reducible repeat (first | refine blk_drewN ?_ _ | refine blk_drew ?_ | refine blk_alloc ?_ _)); refine blk_far ?_ NB613_626.out _; (with_reducible repeat (first | refine blk_drewN ?_ _ | refine blk_drew ?_ | refine blk_alloc ?_ _)); exact BK613.out) NB613_0.out (by simp)); have n3_ := Aside0.mk (KeepBut.blk hk (g' := gb626) (o := .cells #[.slice Ao17 y614.length co17, .slice Ao37 y639.length co37, .slice Ao42 x627002_2.length co42, .int .i64 t623, .int .i64 t627] 64 (0, 0)) (by (with_reducible repeat (first | refine blk_drewN ?_ _ | refine blk_drew ?_ | refine blk_alloc ?_ _)); refine blk_put (cs := #[.slice Ao17 y614.length co17, u627001, .slice Ao42 x627002_2.length co42, .int .i64 t623, .int .i64 t627]) ?_ 1 _ rfl; (with_reducible repeat (first | refine blk_drewN ?_ _ | refine blk_drew ?_ | refine blk_alloc ?_ _)); exact BK626.out) NB626_0.out (by simp)); have n4_ := Aside0.mk (Kd.R_mono (Kd.R_keep (IsS168.apart (show IsS168 w0 _ g s0_0 t637 t638 from by repeat (first | (with_reducible first | exact HI0.out | apply IsS168.alloc | apply IsS168.drewN | apply IsS168.drew | refine IsS168.far ?_ NB0_613.out _ | refine IsS168.far ?_ NB0_626.out _) | exact HI0.out)) (by (with_reducible repeat (first | apply Kd.R_alloc | apply Kd.R_drewN | apply Kd.R_drew)); exact (Kd.R_mono (Kd.R_far (p := ⟨gb626, 1, none⟩) (Kd.R_types HO641.out BK626.out (by decide)) (fun _ hk => hk.2) (.slice Ao37 y639.length co37)) (fun _ h_ => h_.1))) (by decide)) hk (fun _ h => h.2)) (fun _ h => h.1)); have n5_ := Aside0.mk (KeepBut.trans (by repeat (first | (with_reducible first | exact HK.out | apply KeepBut.set_ | apply keep_drewN | apply keep_drew | apply keep_alloc | refine keep_far ?_ GW613.out _ | refine keep_far ?_ GW626.out _) | exact HK.out)) hk (.inl rfl)); have n6_ := Aside0.mk (hb); have n7_ := Aside0.mk (hi); clear HO_627000; clear HO_627002; clear BK613; clear BK626; clear HO641; clear HK; clear HB; clear HI0; have HO_627000 := n0_; have HO_627002 := n1_; have BK613 := n2_; have BK626 := n3_; have HO641 := n4_; have HK := n5_; have HB := n6_; have HI0 := n7_; clear n0_ n1_ n2_ n3_ n4_ n5_ n6_ n7_; (try clear hb); (try clear hb2); (try clear hk); (try clear hi); have hcz44_0 : w43.cell? ⟨gb626, 0, none⟩ = some (.slice Ao17 y614.length co17) := (blk_cell BK626.out 0).trans rfl; have hcz44_1 : w43.cell? ⟨gb626, 1, none⟩ = some (.slice Ao37 y639.length co37) := (blk_cell BK626.out 1).trans rfl; have hcz44_2 : w43.cell? ⟨gb626, 2, none⟩ = some (.slice Ao42 x627002_2.length co42) := (blk_cell BK626.out 2).trans rfl; have hcz44_3 : w43.cell? ⟨gb626, 3, none⟩ = some (.int .i64 t623) := (blk_cell BK626.out 3).trans rfl; have hcz44_4 : w43.cell? ⟨gb626, 4, none⟩ = some (.int .i64 t627) := (blk_cell BK626.out 4).trans rfl; have hfz44_0 := blk_frozen BK626.out 0; have hfz44_1 := blk_frozen BK626.out 1; have hfz44_2 := blk_frozen BK626.out 2; have hfz44_3 := blk_frozen BK626.out 3; have hfz44_4 := blk_frozen BK626.out 4) | ((with_reducible refine gate_builtin (b := .append) (xs := #[.tmp 42, .tmp 44]) rfl ?_); at_builtin; refine Kd.R_append (Kd.int .i64) w.heap.size rfl (.tmp 42) (.tmp 44) 24 2 (.int .i64 0) 8 rfl Try.underlying24 info2 rfl (by decide) (by omega) (.slice Ao42 x627002_2.length co42) x627002_2 x5_2 [.int .i64 x5_2] (fun k_ => some k_ ≠ (.slice Ao37 y639.length co37 : Value).ownBlock) (fun _ => False) rfl rfl ?aP (fun _ hk => hk.elim) ?aF ?aO (Below.refl _ _) ?aS ?aL ?_; (case aP => exact rfl); (case aF => exact (fun k_ hk => Kd.fresh' (Kd.R_lt (by (with_reducible repeat (first | apply Kd.R_alloc | apply Kd.R_drewN | apply Kd.R_drew)); exact HO641.out)) k_ hk)); (case aO => exact (by (with_reducible repeat (first | apply Kd.R_alloc | apply Kd.R_drewN | apply Kd.R_drew)); exact Kd.R_mono HO_627002.out (fun _ hk => hk.2))); (case aS => exact (keep_size (w := w) (g := g) (row := none) (by repeat (first | (with_reducible first | exact HK.out | apply KeepBut.set_ | apply keep_drewN | apply keep_drew | apply keep_alloc | refine keep_far ?_ GW613.out _ | refine keep_far ?_ GW626.out _) | exact HK.out)))); (case aL => have := LMc33.out; omega); intro v646 w45 ho hb hg hat; rw [← Ny645.out] at ho; have n0_ := Aside0.mk (Kd.R_over' (by (with_reducible repeat (first | apply Kd.R_alloc | apply Kd.R_drewN | apply Kd.R_drew)); exact HO_627000.out) (Kd.R_typed (by (with_reducible repeat (first | apply Kd.R_alloc | apply Kd.R_drewN | apply Kd.R_drew)); exact HO_627002.out)) (by decide) hg); have n1_ := Aside0.mk (blk_grown (g := gb613) (o := .cells #[.slice none 0 0, .slice none 0 0, .slice none 0 0, .int .i64 0, .int .i64 0] 64 (0, 0)) (by (with_reducible repeat (first | refine blk_drewN ?_ _ | refine blk_drew ?_ | refine blk_alloc ?_ _)); exact BK613.out) hg (Kd.R_ne HO_627002.out BK613.out (by decide))); have n2_ := Aside0.mk (blk_grown (g := gb626) (o := .cells #[.slice Ao17 y614.length co17, .slice Ao37 y639.length co37, .slice Ao42 x627002_2.length co42, .int .i64 t623, .int .i64 t627] 64 (0, 0)) (by (with_reducible repeat (first | refine blk_drewN ?_ _ | refine blk_drew ?_ | refine blk_alloc ?_ _)); exact BK626.out) hg (Kd.R_ne HO_627002.out BK626.out (by decide))); have n3_ := Aside0.mk (IsS168.grown (by repeat (first | (with_reducible first | exact HI0.out | apply IsS168.alloc | apply IsS168.drewN | apply IsS168.drew | refine IsS168.far ?_ NB0_613.out _ | refine IsS168.far ?_ NB0_626.out _) | exact HI0.out)) hg (IsS168.own_ne HI0.out HO_627002.out (by decide))); have n4_ := Aside0.mk (Kd.R_after (ok := (fun _ => True)) (by (with_reducible repeat (first | apply Kd.R_alloc | apply Kd.R_drewN | apply Kd.R_drew)); exact Kd.R_mono HO641.out (fun _ hk => ⟨trivial, hk⟩)) hg hat); have n5_ := Aside0.mk (below_weaken (by repeat (first | (with_reducible first | exact HB.out | apply below_alloc | apply pw_below_drewN | apply below_drew1 | refine below_set ?_ (IsS168.ge HI0.out) | refine below_set ?_ GE613.out | refine below_set ?_ GE626.out) | exact HB.out)) HL.out hb); have n6_ := Aside0.mk (KeepBut.trans (by repeat (first | (with_reducible first | exact HK.out | apply KeepBut.set_ | apply keep_drewN | apply keep_drew | apply keep_alloc | refine keep_far ?_ GW613.out _ | refine keep_far ?_ GW626.out _) | exact HK.out)) (KeepBut.of_grown hg g) (Kd.R_base2 HO_627002.out)); have n7_ := Aside0.mk (ho); clear HO_627000; clear BK613; clear BK626; clear HI0; clear HO641; clear HB; clear HK; clear HO_627002; have HO_627000 := n0_; have BK613 := n1_; have BK626 := n2_; have HI0 := n3_; have HO641 := n4_; have HB := n5_; have HK := n6_; have HO647 := n7_; clear n0_ n1_ n2_ n3_ n4_ n5_ n6_ n7_; clear ho hb hg hat; obtain ⟨Ao46, co46, eo46⟩ := Kd.R_slice HO647.out; subst eo46; have hcz47_0 : w45.cell? ⟨gb626, 0, none⟩ = some (.slice Ao17 y614.length co17) := (blk_cell BK626.out 0).trans rfl; have hcz47_1 : w45.cell? ⟨gb626, 1, none⟩ = some (.slice Ao37 y639.length co37) := (blk_cell BK626.out 1).trans rfl; have hcz47_2 : w45.cell? ⟨gb626, 2, none⟩ = some (.slice Ao42 x627002_2.length co42) := (blk_cell BK626.out 2).trans rfl; have hcz47_3 : w45.cell? ⟨gb626, 3, none⟩ = some (.int .i64 t623) := (blk_cell BK626.out 3).trans rfl; have hcz47_4 : w45.cell? ⟨gb626, 4, none⟩ = some (.int .i64 t627) := (blk_cell BK626.out 4).trans rfl; have hfz47_0 := blk_frozen BK626.out 0; have hfz47_1 := blk_frozen BK626.out 1; have hfz47_2 := blk_frozen BK626.out 2; have hfz47_3 := blk_frozen BK626.out 3; have hfz47_4 := blk_frozen BK626.out 4))
          go_roundg k2
          case measure => have := HJ5.out; have := HK2.out; omega
          case rel => exact ⟨(wrap64 (x5_2 + 1)), (t643), (t644), (y639), (y645), (.slice Ao37 y639.length co37), (.slice Ao46 y645.length co46), (by first | rfl | (simp; done) | (simp [*]; done) | (simp [Int.tdiv_eq_ediv_of_nonneg, *]; done)), H', ⟨by have := HJ5.out; have := HK2.out; omega⟩, ⟨by (with_reducible repeat (first | apply Kd.R_alloc | apply Kd.R_drewN | apply Kd.R_drew)); exact Kd.R_mono (Kd.R_far (p := ⟨gb626, 2, none⟩) (Kd.R_types HO_627000.out BK626.out (by decide)) (fun _ hk => hk.2) (.slice Ao46 y645.length co46)) (fun _ hk => trivial)⟩, ⟨by (with_reducible repeat (first | apply Kd.R_alloc | apply Kd.R_drewN | apply Kd.R_drew)); exact Kd.R_mono (Kd.R_far (p := ⟨gb626, 2, none⟩) (Kd.R_types HO641.out BK626.out (by decide)) (fun _ hk => hk.2) (.slice Ao46 y645.length co46)) (fun _ hk => hk.1.2)⟩, ⟨by (with_reducible repeat (first | apply Kd.R_alloc | apply Kd.R_drewN | apply Kd.R_drew)); exact Kd.R_mono (Kd.R_far (p := ⟨gb626, 2, none⟩) (Kd.R_types HO647.out BK626.out (by decide)) (fun _ hk => hk.2) (.slice Ao46 y645.length co46)) (fun _ hk => hk.1)⟩, ⟨by (with_reducible repeat (first | refine blk_drewN ?_ _ | refine blk_drew ?_ | refine blk_alloc ?_ _)); refine blk_far ?_ NB613_626.out _; (with_reducible repeat (first | refine blk_drewN ?_ _ | refine blk_drew ?_ | refine blk_alloc ?_ _)); exact BK613.out⟩, ⟨by (with_reducible repeat (first | refine blk_drewN ?_ _ | refine blk_drew ?_ | refine blk_alloc ?_ _)); refine blk_put (cs := #[.slice Ao17 y614.length co17, .slice Ao37 y639.length co37, .slice Ao42 x627002_2.length co42, .int .i64 t623, .int .i64 t627]) ?_ 2 _ rfl; (with_reducible repeat (first | refine blk_drewN ?_ _ | refine blk_drew ?_ | refine blk_alloc ?_ _)); exact BK626.out⟩, ⟨by repeat (first | (with_reducible first | exact HI0.out | apply IsS168.alloc | apply IsS168.drewN | apply IsS168.drew | refine IsS168.far ?_ NB0_613.out _ | refine IsS168.far ?_ NB0_626.out _) | exact HI0.out)⟩, ⟨by repeat (first | (with_reducible first | exact HK.out | apply KeepBut.set_ | apply keep_drewN | apply keep_drew | apply keep_alloc | refine keep_far ?_ GW613.out _ | refine keep_far ?_ GW626.out _) | exact HK.out)⟩, ⟨by repeat (first | (with_reducible first | exact HB.out | apply below_alloc | apply pw_below_drewN | apply below_drew1 | refine below_set ?_ (IsS168.ge HI0.out) | refine below_set ?_ GE613.out | refine below_set ?_ GE626.out) | exact HB.out)⟩⟩
         ·rw [if_neg c33] at H
          exact absurd H (by simp)
        ·replace c32 := Bool.eq_false_iff.mpr c32
         subst c32
         have H1 : (spec_l08DrawOk.l0 k2 x4_5 (wrap64 (x5_2 + 1)) s0_0 t643 t644 y614 y639 x627002_2 t623 t627) = some (r1, r2, r3, r4, r5, r6, r7) := by rw [if_neg (show ¬ (false = true) by decide)] at H; exact H
         clear H
         have H := H1
         clear H1
         have H' := Aside0.mk H
         clear H
         try go_wp2
         have n0_ := Aside0.mk (Kd.R_drew HO_627000.out)
         have n1_ := Aside0.mk (Kd.R_drew HO_627001.out)
         have n2_ := Aside0.mk (Kd.R_drew HO_627002.out)
         have n3_ := Aside0.mk (blk_drew BK613.out)
         have n4_ := Aside0.mk (blk_drew BK626.out)
         have n5_ := Aside0.mk (IsS168.drew HI0.out)
         have n6_ := Aside0.mk (keep_drew HK.out)
         have n7_ := Aside0.mk (below_drew1 HB.out)
         clear HO_627000
         clear HO_627001
         clear HO_627002
         clear BK613
         clear BK626
         clear HI0
         clear HK
         clear HB
         have HO_627000 := n0_
         have HO_627001 := n1_
         have HO_627002 := n2_
         have BK613 := n3_
         have BK626 := n4_
         have HI0 := n5_
         have HK := n6_
         have HB := n7_
         clear n0_ n1_ n2_ n3_ n4_ n5_ n6_ n7_
         refine start_ (n := 8) (S := fun w' => w'.cell? ⟨gb626, 0, none⟩ = some (.slice Ao17 y614.length co17) ∧ w'.cell? ⟨gb626, 1, none⟩ = some (u627001) ∧ w'.cell? ⟨gb626, 2, none⟩ = some (u627002) ∧ w'.cell? ⟨gb626, 3, none⟩ = some (.int .i64 t623) ∧ w'.cell? ⟨gb626, 4, none⟩ = some (.int .i64 t627)) (ds := [7]) #[false, false, false, false, false, false, false, false] (by kernel_rfl) rfl rfl ⟨(blk_cell BK626.out 0).trans rfl, (blk_cell BK626.out 1).trans rfl, (blk_cell BK626.out 2).trans rfl, (blk_cell BK626.out 3).trans rfl, (blk_cell BK626.out 4).trans rfl⟩ (fun hHeld => ?_); refine with_tabW spec_l08DrawOk.tab9 spec_l08DrawOk.bits9 (fun HT_ HW_ => ?_)
         generalize wr.drew = w48 at HO_627000 HO_627001 HO_627002 BK613 BK626 HI0 HK HB hHeld ⊢
         refine pure_ (i := 0) (N := some 26) (v := ?_) (a' := ?_) #[true, false, false, false, false, false, false, false] rfl rfl (any_of HT_.out (by kernel_rfl)) (fun _ _ _ h => h) (Or.inl ⟨by rfl, ?_⟩) ?_ ?_
         rotate_left
         ·intro w'
          go_simp
          with_reducible rfl
         rotate_left
         ·simp only [Act.put, List.setIfInBounds_toArray, List.set_cons_zero, List.set_cons_succ, i64_w, i32_w]
          rfl
         refine pure_ (i := 2) (N := some 28) (v := ?_) (a' := ?_) #[true, false, true, false, false, false, false, false] rfl rfl (any_of HT_.out (by kernel_rfl)) (fun _ _ _ h => h) (Or.inl ⟨by rfl, ?_⟩) ?_ ?_
         rotate_left
         ·intro w'
          go_simp
          with_reducible rfl
         rotate_left
         ·simp only [Act.put, List.setIfInBounds_toArray, List.set_cons_zero, List.set_cons_succ, i64_w, i32_w]
          rfl
         refine take_ (i := 1) (N := some 27) (v := ?_) (a' := ?_) #[true, true, true, false, false, false, false, false] rfl rfl (take_ofW HT_.out HW_.out (by kernel_rfl)) (fun _ _ _ h => h) (Or.inl ⟨by rfl, ?_⟩) hHeld ?_ ?_
         rotate_left
         ·rintro w' ⟨s0, s1, s2, s3, s4⟩
          go_simp
          with_reducible rfl
         rotate_left
         ·simp only [Act.put, List.setIfInBounds_toArray, List.set_cons_zero, List.set_cons_succ, i64_w, i32_w]
          rfl
         refine one_ (i := 3) (N := some 29) #[true, true, true, true, false, false, false, false] rfl rfl (one_of HT_.out (by kernel_rfl)) (by decide) (fun K hK => ?_)
         refine goes_ Try.func74 (by kernel_rfl) rfl #[.pointer (some ⟨g, 0, none⟩), .int .i64 8] (by rfl) rfl rfl (by (try simp only [List.map_toArray, List.map_cons, List.map_nil]); first | done | rfl | (simp only [List.length_drop, List.length_take]; rfl)) ?_
         with_reducible refine (spec_l00Src_pick.calls g s0_0 x1001_2 x1002_2 8 t636 t637 t638 w0 _ ?side1 ?side2 A28.out).mono ?_
         (case side1 => repeat (first | (with_reducible first | exact HI0.out | apply IsS168.alloc | apply IsS168.drewN | apply IsS168.drew | refine IsS168.far ?_ NB0_613.out _ | refine IsS168.far ?_ NB0_626.out _) | exact HI0.out))
         (case side2 => repeat (first | (with_reducible first | exact HB.out | apply below_alloc | apply pw_below_drewN | apply below_drew1 | refine below_set ?_ (IsS168.ge HI0.out) | refine below_set ?_ GE613.out | refine below_set ?_ GE626.out) | exact HB.out))
         rintro e w49 ⟨rfl, hi, hb, hk⟩
         refine ⟨_, rfl, ?_⟩
         have n0_ := Aside0.mk (Kd.R_mono (Kd.R_keep (IsS168.apart (show IsS168 w0 _ g s0_0 x1001_2 x1002_2 from by repeat (first | (with_reducible first | exact HI0.out | apply IsS168.alloc | apply IsS168.drewN | apply IsS168.drew | refine IsS168.far ?_ NB0_613.out _ | refine IsS168.far ?_ NB0_626.out _) | exact HI0.out)) (by (with_reducible repeat (first | apply Kd.R_alloc | apply Kd.R_drewN | apply Kd.R_drew)); exact HO_627000.out) (by decide)) hk (fun _ h => h.2)) (fun _ h => h.1))
         have n1_ := Aside0.mk (Kd.R_mono (Kd.R_keep (IsS168.apart (show IsS168 w0 _ g s0_0 x1001_2 x1002_2 from by repeat (first | (with_reducible first | exact HI0.out | apply IsS168.alloc | apply IsS168.drewN | apply IsS168.drew | refine IsS168.far ?_ NB0_613.out _ | refine IsS168.far ?_ NB0_626.out _) | exact HI0.out)) (by (with_reducible repeat (first | apply Kd.R_alloc | apply Kd.R_drewN | apply Kd.R_drew)); exact HO_627001.out) (by decide)) hk (fun _ h => h.2)) (fun _ h => h.1))
         have n2_ := Aside0.mk (Kd.R_mono (Kd.R_keep (IsS168.apart (show IsS168 w0 _ g s0_0 x1001_2 x1002_2 from by repeat (first | (with_reducible first | exact HI0.out | apply IsS168.alloc | apply IsS168.drewN | apply IsS168.drew | refine IsS168.far ?_ NB0_613.out _ | refine IsS168.far ?_ NB0_626.out _) | exact HI0.out)) (by (with_reducible repeat (first | apply Kd.R_alloc | apply Kd.R_drewN | apply Kd.R_drew)); exact HO_627002.out) (by decide)) hk (fun _ h => h.2)) (fun _ h => h.1))
         have n3_ := Aside0.mk (KeepBut.blk hk (g' := gb613) (o := .cells #[.slice none 0 0, .slice none 0 0, .slice none 0 0, .int .i64 0, .int .i64 0] 64 (0, 0)) (by (with_reducible repeat (first | refine blk_drewN ?_ _ | refine blk_drew ?_ | refine blk_alloc ?_ _)); exact BK613.out) NB613_0.out (by simp))
         have n4_ := Aside0.mk (KeepBut.blk hk (g' := gb626) (o := .cells #[.slice Ao17 y614.length co17, u627001, u627002, .int .i64 t623, .int .i64 t627] 64 (0, 0)) (by (with_reducible repeat (first | refine blk_drewN ?_ _ | refine blk_drew ?_ | refine blk_alloc ?_ _)); exact BK626.out) NB626_0.out (by simp))
         have n5_ := Aside0.mk (KeepBut.trans (by repeat (first | (with_reducible first | exact HK.out | apply KeepBut.set_ | apply keep_drewN | apply keep_drew | apply keep_alloc | refine keep_far ?_ GW613.out _ | refine keep_far ?_ GW626.out _) | exact HK.out)) hk (.inl rfl))
         have n6_ := Aside0.mk (hb)
         have n7_ := Aside0.mk (hi)
         clear HO_627000
         clear HO_627001
         clear HO_627002
         clear BK613
         clear BK626
         clear HK
         clear HB
         clear HI0
         have HO_627000 := n0_
         have HO_627001 := n1_
         have HO_627002 := n2_
         have BK613 := n3_
         have BK626 := n4_
         have HK := n5_
         have HB := n6_
         have HI0 := n7_
         clear n0_ n1_ n2_ n3_ n4_ n5_ n6_ n7_
         (try clear hb)
         (try clear hb2)
         (try clear hk)
         (try clear hi)
         refine hK.out _ _ ⟨(blk_cell BK626.out 0).trans rfl, (blk_cell BK626.out 1).trans rfl, (blk_cell BK626.out 2).trans rfl, (blk_cell BK626.out 3).trans rfl, (blk_cell BK626.out 4).trans rfl⟩ (fun hHeld => ?_)
         clear hK K
         refine norm_ (a' := ?_) ?_ ?_
         rotate_left
         ·show Act.put _ (some 29) _ = _
          simp only [Act.put, List.setIfInBounds_toArray, List.set_cons_zero, List.set_cons_succ, i64_w, i32_w]
          rfl
         refine one_ (i := 4) (N := some 30) #[true, true, true, true, true, false, false, false] rfl rfl (one_of HT_.out (by kernel_rfl)) (by decide) (fun K hK => ?_)
         refine value_ (w1 := ?_) (v := ?_) (by rfl) rfl ?_ ?_
         rotate_left 2
         ·go_simp
          constructor
          ·rfl
          ·rfl
         refine hK.out _ _ ⟨(blk_cell (blk_alloc BK626.out _) 0).trans rfl, (blk_cell (blk_alloc BK626.out _) 1).trans rfl, (blk_cell (blk_alloc BK626.out _) 2).trans rfl, (blk_cell (blk_alloc BK626.out _) 3).trans rfl, (blk_cell (blk_alloc BK626.out _) 4).trans rfl⟩ (fun hHeld => ?_)
         clear hK K
         refine norm_ (a' := ?_) ?_ ?_
         rotate_left
         ·show Act.put _ (some 30) _ = _
          simp only [Act.put, List.setIfInBounds_toArray, List.set_cons_zero, List.set_cons_succ, i64_w, i32_w]
          rfl
         refine one_ (i := 5) (N := some 31) #[true, true, true, true, true, true, false, false] rfl rfl (one_of HT_.out (by kernel_rfl)) (by decide) (fun K hK => ?_)
         refine Kd.R_append_step (Kd.int .i64) w.heap.size (by rfl) (.tmp 27) (.tmp 30) 24 2 (.int .i64 0) 8 rfl Try.underlying24 info2 rfl (by decide) (by omega) u627001 x627001_2 t636 [.int .i64 t636] (fun k_ => some k_ ≠ (u627002 : Value).ownBlock) (fun _ => False) rfl rfl ?aP (fun _ hk => hk.elim) ?aF ?aO (Below.refl _ _) ?aS ?aL ?_
         (case aP => exact rfl)
         (case aF => exact (fun k_ hk => Kd.fresh' (Kd.R_lt (by (with_reducible repeat (first | apply Kd.R_alloc | apply Kd.R_drewN | apply Kd.R_drew)); exact HO_627002.out)) k_ hk))
         (case aO => exact (by (with_reducible repeat (first | apply Kd.R_alloc | apply Kd.R_drewN | apply Kd.R_drew)); exact HO_627001.out))
         (case aS => exact (keep_size (w := w) (g := g) (row := none) (by repeat (first | (with_reducible first | exact HK.out | apply KeepBut.set_ | apply keep_drewN | apply keep_drew | apply keep_alloc | refine keep_far ?_ GW613.out _ | refine keep_far ?_ GW626.out _) | exact HK.out))))
         (case aL => have := LMc29.out; omega)
         intro v640 w50 ho hb hg hat
         rw [← Ny639.out] at ho
         have n0_ := Aside0.mk (Kd.R_over' (by (with_reducible repeat (first | apply Kd.R_alloc | apply Kd.R_drewN | apply Kd.R_drew)); exact HO_627000.out) (Kd.R_typed (by (with_reducible repeat (first | apply Kd.R_alloc | apply Kd.R_drewN | apply Kd.R_drew)); exact HO_627001.out)) (by decide) hg)
         have n1_ := Aside0.mk (Kd.R_after (ok := (fun _ => True)) (by (with_reducible repeat (first | apply Kd.R_alloc | apply Kd.R_drewN | apply Kd.R_drew)); exact Kd.R_mono HO_627002.out (fun _ hk => ⟨trivial, hk⟩)) hg hat)
         have n2_ := Aside0.mk (blk_grown (g := gb613) (o := .cells #[.slice none 0 0, .slice none 0 0, .slice none 0 0, .int .i64 0, .int .i64 0] 64 (0, 0)) (by (with_reducible repeat (first | refine blk_drewN ?_ _ | refine blk_drew ?_ | refine blk_alloc ?_ _)); exact BK613.out) hg (Kd.R_ne HO_627001.out BK613.out (by decide)))
         have n3_ := Aside0.mk (blk_grown (g := gb626) (o := .cells #[.slice Ao17 y614.length co17, u627001, u627002, .int .i64 t623, .int .i64 t627] 64 (0, 0)) (by (with_reducible repeat (first | refine blk_drewN ?_ _ | refine blk_drew ?_ | refine blk_alloc ?_ _)); exact BK626.out) hg (Kd.R_ne HO_627001.out BK626.out (by decide)))
         have n4_ := Aside0.mk (IsS168.grown (by repeat (first | (with_reducible first | exact HI0.out | apply IsS168.alloc | apply IsS168.drewN | apply IsS168.drew | refine IsS168.far ?_ NB0_613.out _ | refine IsS168.far ?_ NB0_626.out _) | exact HI0.out)) hg (IsS168.own_ne HI0.out HO_627001.out (by decide)))
         have n5_ := Aside0.mk (below_weaken (by repeat (first | (with_reducible first | exact HB.out | apply below_alloc | apply pw_below_drewN | apply below_drew1 | refine below_set ?_ (IsS168.ge HI0.out) | refine below_set ?_ GE613.out | refine below_set ?_ GE626.out) | exact HB.out)) HL.out hb)
         have n6_ := Aside0.mk (KeepBut.trans (by repeat (first | (with_reducible first | exact HK.out | apply KeepBut.set_ | apply keep_drewN | apply keep_drew | apply keep_alloc | refine keep_far ?_ GW613.out _ | refine keep_far ?_ GW626.out _) | exact HK.out)) (KeepBut.of_grown hg g) (Kd.R_base2 HO_627001.out))
         have n7_ := Aside0.mk (ho)
         clear HO_627000
         clear HO_627002
         clear BK613
         clear BK626
         clear HI0
         clear HB
         clear HK
         clear HO_627001
         have HO_627000 := n0_
         have HO_627002 := n1_
         have BK613 := n2_
         have BK626 := n3_
         have HI0 := n4_
         have HB := n5_
         have HK := n6_
         have HO641 := n7_
         clear n0_ n1_ n2_ n3_ n4_ n5_ n6_ n7_
         clear ho hb hg hat
         obtain ⟨Ao51, co51, eo51⟩ := Kd.R_slice HO641.out
         (first | subst eo51 | (injection eo51 with f1_ f2_ f3_; have f4_ := f1_.symm; have f5_ := f3_.symm; clear f1_ f2_ f3_; subst f4_; subst f5_))
         refine hK.out _ _ ⟨(blk_cell BK626.out 0).trans rfl, (blk_cell BK626.out 1).trans rfl, (blk_cell BK626.out 2).trans rfl, (blk_cell BK626.out 3).trans rfl, (blk_cell BK626.out 4).trans rfl⟩ (fun hHeld => ?_)
         clear hK K
         refine norm_ (a' := ?_) ?_ ?_
         rotate_left
         ·show Act.put _ (some 31) _ = _
          simp only [Act.put, List.setIfInBounds_toArray, List.set_cons_zero, List.set_cons_succ, i64_w, i32_w]
          rfl
         refine pure_ (i := 6) (N := some 32) (v := ?_) (a' := ?_) #[true, true, true, true, true, true, true, false] rfl rfl (any_of HT_.out (by kernel_rfl)) (fun _ _ _ h => h) (Or.inl ⟨by rfl, ?_⟩) ?_ ?_
         rotate_left
         ·intro w'
          go_simp
          with_reducible rfl
         rotate_left
         ·simp only [Act.put, List.setIfInBounds_toArray, List.set_cons_zero, List.set_cons_succ, i64_w, i32_w]
          rfl
         refine last_ (i := 7) (N := none) #[true, true, true, true, true, true, true, true] rfl rfl (one_of HT_.out (by kernel_rfl)) (by decide) (fun K hK => ?_)
         have hs52 : w50.cell? ⟨gb626, 1, none⟩ = some (u627001) := (blk_cell BK626.out 1).trans rfl
         have hfs52 := blk_frozen BK626.out 1
         have hns52_0 := NB613_626.out
         have hms52_0 := NB626_613.out
         refine skip_ (w1 := ?_) (by rfl) rfl ?_ ?_
         rotate_left
         ·go_simp
          rfl
         refine hK.out _ _ ?_
         clear hK K
         refine done_ (done_of HT_.out (by kernel_rfl)) ?_
         have hnb53 := NB626_613.out
         have hnc53 := NB613_626.out
         have hnb54 := NB626_0.out
         have hnc54 := NB0_626.out
         have hcz55_0 : w50.cell? ⟨gb626, 0, none⟩ = some (.slice Ao17 y614.length co17) := (blk_cell BK626.out 0).trans rfl
         have hcz55_1 : w50.cell? ⟨gb626, 1, none⟩ = some (u627001) := (blk_cell BK626.out 1).trans rfl
         have hcz55_2 : w50.cell? ⟨gb626, 2, none⟩ = some (u627002) := (blk_cell BK626.out 2).trans rfl
         have hcz55_3 : w50.cell? ⟨gb626, 3, none⟩ = some (.int .i64 t623) := (blk_cell BK626.out 3).trans rfl
         have hcz55_4 : w50.cell? ⟨gb626, 4, none⟩ = some (.int .i64 t627) := (blk_cell BK626.out 4).trans rfl
         have hfz55_0 := blk_frozen BK626.out 0
         have hfz55_1 := blk_frozen BK626.out 1
         have hfz55_2 := blk_frozen BK626.out 2
         have hfz55_3 := blk_frozen BK626.out 3
         have hfz55_4 := blk_frozen BK626.out 4
         obtain ⟨Ao56, co56, eo56⟩ := Kd.R_slice HO_627002.out
         subst eo56
         try go_wp2_with (first | (go_at_call 103; (with_reducible refine (spec_l00Src_one.calls g s0_0 t637 t638 2 false t643 t644 w0 _ ?side1 ?side2 A31.out).mono ?_); (case side1 => repeat (first | (with_reducible first | exact HI0.out | apply IsS168.alloc | apply IsS168.drewN | apply IsS168.drew | refine IsS168.far ?_ NB0_613.out _ | refine IsS168.far ?_ NB0_626.out _) | exact HI0.out)); (case side2 => repeat (first | (with_reducible first | exact HB.out | apply below_alloc | apply pw_below_drewN | apply below_drew1 | refine below_set ?_ (IsS168.ge HI0.out) | refine below_set ?_ GE613.out | refine below_set ?_ GE626.out) | exact HB.out)); rintro e w57 ⟨rfl, hi, hb, hk⟩; have n0_ := Aside0.mk (Kd.R_mono (Kd.R_keep (IsS168.apart (show IsS168 w0 _ g s0_0 t637 t638 from by repeat (first | (with_reducible first | exact HI0.out | apply IsS168.alloc | apply IsS168.drewN | apply IsS168.drew | refine IsS168.far ?_ NB0_613.out _ | refine IsS168.far ?_ NB0_626.out _) | exact HI0.out)) (by (with_reducible repeat (first | apply Kd.R_alloc | apply Kd.R_drewN | apply Kd.R_drew)); exact (Kd.R_mono (Kd.R_far (p := ⟨gb626, 1, none⟩) (Kd.R_types HO_627000.out BK626.out (by decide)) (fun _ hk => hk.2) (.slice Ao51 y639.length co51)) (fun _ h_ => h_.1))) (by decide)) hk (fun _ h => h.2)) (fun _ h => h.1)); have n1_ := Aside0.mk (Kd.R_mono (Kd.R_keep (IsS168.apart (show IsS168 w0 _ g s0_0 t637 t638 from by repeat (first | (with_reducible first | exact HI0.out | apply IsS168.alloc | apply IsS168.drewN | apply IsS168.drew | refine IsS168.far ?_ NB0_613.out _ | refine IsS168.far ?_ NB0_626.out _) | exact HI0.out)) (by (with_reducible repeat (first | apply Kd.R_alloc | apply Kd.R_drewN | apply Kd.R_drew)); exact (Kd.R_mono (Kd.R_far (p := ⟨gb626, 1, none⟩) (Kd.R_types HO_627002.out BK626.out (by decide)) (fun _ hk => hk.2) (.slice Ao51 y639.length co51)) (fun _ h_ => h_.1))) (by decide)) hk (fun _ h => h.2)) (fun _ h => h.1)); have n2_ := Aside0.mk (KeepBut.blk hk (g' := gb613) (o := .cells #[.slice none 0 0, .slice none 0 0, .slice none 0 0, .int .i64 0, .int .i64 0] 64 (0, 0)) (by (with_reducible repeat (first | refine blk_drewN ?_ _ | refine blk_drew ?_ | refine blk_alloc ?_ _)); refine blk_far ?_ NB613_626.out _; (with_reducible repeat (first | refine blk_drewN ?_ _ | refine blk_drew ?_ | refine blk_alloc ?_ _)); exact BK613.out) NB613_0.out (by simp)); have n3_ := Aside0.mk (KeepBut.blk hk (g' := gb626) (o := .cells #[.slice Ao17 y614.length co17, .slice Ao51 y639.length co51, .slice Ao56 x627002_2.length co56, .int .i64 t623, .int .i64 t627] 64 (0, 0)) (by (with_reducible repeat (first | refine blk_drewN ?_ _ | refine blk_drew ?_ | refine blk_alloc ?_ _)); refine blk_put (cs := #[.slice Ao17 y614.length co17, u627001, .slice Ao56 x627002_2.length co56, .int .i64 t623, .int .i64 t627]) ?_ 1 _ rfl; (with_reducible repeat (first | refine blk_drewN ?_ _ | refine blk_drew ?_ | refine blk_alloc ?_ _)); exact BK626.out) NB626_0.out (by simp)); have n4_ := Aside0.mk (Kd.R_mono (Kd.R_keep (IsS168.apart (show IsS168 w0 _ g s0_0 t637 t638 from by repeat (first | (with_reducible first | exact HI0.out | apply IsS168.alloc | apply IsS168.drewN | apply IsS168.drew | refine IsS168.far ?_ NB0_613.out _ | refine IsS168.far ?_ NB0_626.out _) | exact HI0.out)) (by (with_reducible repeat (first | apply Kd.R_alloc | apply Kd.R_drewN | apply Kd.R_drew)); exact (Kd.R_mono (Kd.R_far (p := ⟨gb626, 1, none⟩) (Kd.R_types HO641.out BK626.out (by decide)) (fun _ hk => hk.2) (.slice Ao51 y639.length co51)) (fun _ h_ => h_.1))) (by decide)) hk (fun _ h => h.2)) (fun _ h => h.1)); have n5_ := Aside0.mk (KeepBut.trans (by repeat (first | (with_reducible first | exact HK.out | apply KeepBut.set_ | apply keep_drewN | apply keep_drew | apply keep_alloc | refine keep_far ?_ GW613.out _ | refine keep_far ?_ GW626.out _) | exact HK.out)) hk (.inl rfl)); have n6_ := Aside0.mk (hb); have n7_ := Aside0.mk (hi); clear HO_627000; clear HO_627002; clear BK613; clear BK626; clear HO641; clear HK; clear HB; clear HI0; have HO_627000 := n0_; have HO_627002 := n1_; have BK613 := n2_; have BK626 := n3_; have HO641 := n4_; have HK := n5_; have HB := n6_; have HI0 := n7_; clear n0_ n1_ n2_ n3_ n4_ n5_ n6_ n7_; (try clear hb); (try clear hb2); (try clear hk); (try clear hi)))
         go_roundg k2
         case measure => have := HJ5.out; have := HK2.out; omega
         case rel => exact ⟨(wrap64 (x5_2 + 1)), (t643), (t644), (y639), (x627002_2), (.slice Ao51 y639.length co51), (.slice Ao56 x627002_2.length co56), (by first | rfl | (simp; done) | (simp [*]; done) | (simp [Int.tdiv_eq_ediv_of_nonneg, *]; done)), H', ⟨by have := HJ5.out; have := HK2.out; omega⟩, ⟨by (with_reducible repeat (first | apply Kd.R_alloc | apply Kd.R_drewN | apply Kd.R_drew)); exact HO_627000.out⟩, ⟨by (with_reducible repeat (first | apply Kd.R_alloc | apply Kd.R_drewN | apply Kd.R_drew)); exact HO641.out⟩, ⟨by (with_reducible repeat (first | apply Kd.R_alloc | apply Kd.R_drewN | apply Kd.R_drew)); exact Kd.R_mono HO_627002.out (fun _ hk => hk.2)⟩, ⟨by (with_reducible repeat (first | refine blk_drewN ?_ _ | refine blk_drew ?_ | refine blk_alloc ?_ _)); exact BK613.out⟩, ⟨by (with_reducible repeat (first | refine blk_drewN ?_ _ | refine blk_drew ?_ | refine blk_alloc ?_ _)); exact BK626.out⟩, ⟨by repeat (first | (with_reducible first | exact HI0.out | apply IsS168.alloc | apply IsS168.drewN | apply IsS168.drew | refine IsS168.far ?_ NB0_613.out _ | refine IsS168.far ?_ NB0_626.out _) | exact HI0.out)⟩, ⟨by repeat (first | (with_reducible first | exact HK.out | apply KeepBut.set_ | apply keep_drewN | apply keep_drew | apply keep_alloc | refine keep_far ?_ GW613.out _ | refine keep_far ?_ GW626.out _) | exact HK.out)⟩, ⟨by repeat (first | (with_reducible first | exact HB.out | apply below_alloc | apply pw_below_drewN | apply below_drew1 | refine below_set ?_ (IsS168.ge HI0.out) | refine below_set ?_ GE613.out | refine below_set ?_ GE626.out) | exact HB.out)⟩⟩
       ·rw [if_neg c30] at H
        have c30b0 : decide ((x627002_2.length : Int) < 5) = false := decide_eq_false c30
        have c30b1 : decide (x627002_2.length < 5) = false := decide_eq_false (by omega)
        clear c30
        have H' := Aside0.mk H
        clear H
        try go_wp2
        have n0_ := Aside0.mk (Kd.R_drew HO_627000.out)
        have n1_ := Aside0.mk (Kd.R_drew HO_627001.out)
        have n2_ := Aside0.mk (Kd.R_drew HO_627002.out)
        have n3_ := Aside0.mk (blk_drew BK613.out)
        have n4_ := Aside0.mk (blk_drew BK626.out)
        have n5_ := Aside0.mk (IsS168.drew HI0.out)
        have n6_ := Aside0.mk (keep_drew HK.out)
        have n7_ := Aside0.mk (below_drew1 HB.out)
        clear HO_627000
        clear HO_627001
        clear HO_627002
        clear BK613
        clear BK626
        clear HI0
        clear HK
        clear HB
        have HO_627000 := n0_
        have HO_627001 := n1_
        have HO_627002 := n2_
        have BK613 := n3_
        have BK626 := n4_
        have HI0 := n5_
        have HK := n6_
        have HB := n7_
        clear n0_ n1_ n2_ n3_ n4_ n5_ n6_ n7_
        refine start_ (n := 8) (S := fun w' => w'.cell? ⟨gb626, 0, none⟩ = some (.slice Ao17 y614.length co17) ∧ w'.cell? ⟨gb626, 1, none⟩ = some (u627001) ∧ w'.cell? ⟨gb626, 2, none⟩ = some (u627002) ∧ w'.cell? ⟨gb626, 3, none⟩ = some (.int .i64 t623) ∧ w'.cell? ⟨gb626, 4, none⟩ = some (.int .i64 t627)) (ds := [7]) #[false, false, false, false, false, false, false, false] (by kernel_rfl) rfl rfl ⟨(blk_cell BK626.out 0).trans rfl, (blk_cell BK626.out 1).trans rfl, (blk_cell BK626.out 2).trans rfl, (blk_cell BK626.out 3).trans rfl, (blk_cell BK626.out 4).trans rfl⟩ (fun hHeld => ?_); refine with_tabW spec_l08DrawOk.tab9 spec_l08DrawOk.bits9 (fun HT_ HW_ => ?_)
        generalize wr.drew = w58 at HO_627000 HO_627001 HO_627002 BK613 BK626 HI0 HK HB hHeld ⊢
        refine pure_ (i := 0) (N := some 26) (v := ?_) (a' := ?_) #[true, false, false, false, false, false, false, false] rfl rfl (any_of HT_.out (by kernel_rfl)) (fun _ _ _ h => h) (Or.inl ⟨by rfl, ?_⟩) ?_ ?_
        rotate_left
        ·intro w'
         go_simp
         with_reducible rfl
        rotate_left
        ·simp only [Act.put, List.setIfInBounds_toArray, List.set_cons_zero, List.set_cons_succ, i64_w, i32_w]
         rfl
        refine pure_ (i := 2) (N := some 28) (v := ?_) (a' := ?_) #[true, false, true, false, false, false, false, false] rfl rfl (any_of HT_.out (by kernel_rfl)) (fun _ _ _ h => h) (Or.inl ⟨by rfl, ?_⟩) ?_ ?_
        rotate_left
        ·intro w'
         go_simp
         with_reducible rfl
        rotate_left
        ·simp only [Act.put, List.setIfInBounds_toArray, List.set_cons_zero, List.set_cons_succ, i64_w, i32_w]
         rfl
        refine take_ (i := 1) (N := some 27) (v := ?_) (a' := ?_) #[true, true, true, false, false, false, false, false] rfl rfl (take_ofW HT_.out HW_.out (by kernel_rfl)) (fun _ _ _ h => h) (Or.inl ⟨by rfl, ?_⟩) hHeld ?_ ?_
        rotate_left
        ·rintro w' ⟨s0, s1, s2, s3, s4⟩
         go_simp
         with_reducible rfl
        rotate_left
        ·simp only [Act.put, List.setIfInBounds_toArray, List.set_cons_zero, List.set_cons_succ, i64_w, i32_w]
         rfl
        refine one_ (i := 3) (N := some 29) #[true, true, true, true, false, false, false, false] rfl rfl (one_of HT_.out (by kernel_rfl)) (by decide) (fun K hK => ?_)
        refine goes_ Try.func74 (by kernel_rfl) rfl #[.pointer (some ⟨g, 0, none⟩), .int .i64 8] (by rfl) rfl rfl (by (try simp only [List.map_toArray, List.map_cons, List.map_nil]); first | done | rfl | (simp only [List.length_drop, List.length_take]; rfl)) ?_
        with_reducible refine (spec_l00Src_pick.calls g s0_0 x1001_2 x1002_2 8 t636 t637 t638 w0 _ ?side1 ?side2 A28.out).mono ?_
        (case side1 => repeat (first | (with_reducible first | exact HI0.out | apply IsS168.alloc | apply IsS168.drewN | apply IsS168.drew | refine IsS168.far ?_ NB0_613.out _ | refine IsS168.far ?_ NB0_626.out _) | exact HI0.out))
        (case side2 => repeat (first | (with_reducible first | exact HB.out | apply below_alloc | apply pw_below_drewN | apply below_drew1 | refine below_set ?_ (IsS168.ge HI0.out) | refine below_set ?_ GE613.out | refine below_set ?_ GE626.out) | exact HB.out))
        rintro e w59 ⟨rfl, hi, hb, hk⟩
        refine ⟨_, rfl, ?_⟩
        have n0_ := Aside0.mk (Kd.R_mono (Kd.R_keep (IsS168.apart (show IsS168 w0 _ g s0_0 x1001_2 x1002_2 from by repeat (first | (with_reducible first | exact HI0.out | apply IsS168.alloc | apply IsS168.drewN | apply IsS168.drew | refine IsS168.far ?_ NB0_613.out _ | refine IsS168.far ?_ NB0_626.out _) | exact HI0.out)) (by (with_reducible repeat (first | apply Kd.R_alloc | apply Kd.R_drewN | apply Kd.R_drew)); exact HO_627000.out) (by decide)) hk (fun _ h => h.2)) (fun _ h => h.1))
        have n1_ := Aside0.mk (Kd.R_mono (Kd.R_keep (IsS168.apart (show IsS168 w0 _ g s0_0 x1001_2 x1002_2 from by repeat (first | (with_reducible first | exact HI0.out | apply IsS168.alloc | apply IsS168.drewN | apply IsS168.drew | refine IsS168.far ?_ NB0_613.out _ | refine IsS168.far ?_ NB0_626.out _) | exact HI0.out)) (by (with_reducible repeat (first | apply Kd.R_alloc | apply Kd.R_drewN | apply Kd.R_drew)); exact HO_627001.out) (by decide)) hk (fun _ h => h.2)) (fun _ h => h.1))
        have n2_ := Aside0.mk (Kd.R_mono (Kd.R_keep (IsS168.apart (show IsS168 w0 _ g s0_0 x1001_2 x1002_2 from by repeat (first | (with_reducible first | exact HI0.out | apply IsS168.alloc | apply IsS168.drewN | apply IsS168.drew | refine IsS168.far ?_ NB0_613.out _ | refine IsS168.far ?_ NB0_626.out _) | exact HI0.out)) (by (with_reducible repeat (first | apply Kd.R_alloc | apply Kd.R_drewN | apply Kd.R_drew)); exact HO_627002.out) (by decide)) hk (fun _ h => h.2)) (fun _ h => h.1))
        have n3_ := Aside0.mk (KeepBut.blk hk (g' := gb613) (o := .cells #[.slice none 0 0, .slice none 0 0, .slice none 0 0, .int .i64 0, .int .i64 0] 64 (0, 0)) (by (with_reducible repeat (first | refine blk_drewN ?_ _ | refine blk_drew ?_ | refine blk_alloc ?_ _)); exact BK613.out) NB613_0.out (by simp))
        have n4_ := Aside0.mk (KeepBut.blk hk (g' := gb626) (o := .cells #[.slice Ao17 y614.length co17, u627001, u627002, .int .i64 t623, .int .i64 t627] 64 (0, 0)) (by (with_reducible repeat (first | refine blk_drewN ?_ _ | refine blk_drew ?_ | refine blk_alloc ?_ _)); exact BK626.out) NB626_0.out (by simp))
        have n5_ := Aside0.mk (KeepBut.trans (by repeat (first | (with_reducible first | exact HK.out | apply KeepBut.set_ | apply keep_drewN | apply keep_drew | apply keep_alloc | refine keep_far ?_ GW613.out _ | refine keep_far ?_ GW626.out _) | exact HK.out)) hk (.inl rfl))
        have n6_ := Aside0.mk (hb)
        have n7_ := Aside0.mk (hi)
        clear HO_627000
        clear HO_627001
        clear HO_627002
        clear BK613
        clear BK626
        clear HK
        clear HB
        clear HI0
        have HO_627000 := n0_
        have HO_627001 := n1_
        have HO_627002 := n2_
        have BK613 := n3_
        have BK626 := n4_
        have HK := n5_
        have HB := n6_
        have HI0 := n7_
        clear n0_ n1_ n2_ n3_ n4_ n5_ n6_ n7_
        (try clear hb)
        (try clear hb2)
        (try clear hk)
        (try clear hi)
        refine hK.out _ _ ⟨(blk_cell BK626.out 0).trans rfl, (blk_cell BK626.out 1).trans rfl, (blk_cell BK626.out 2).trans rfl, (blk_cell BK626.out 3).trans rfl, (blk_cell BK626.out 4).trans rfl⟩ (fun hHeld => ?_)
        clear hK K
        refine norm_ (a' := ?_) ?_ ?_
        rotate_left
        ·show Act.put _ (some 29) _ = _
         simp only [Act.put, List.setIfInBounds_toArray, List.set_cons_zero, List.set_cons_succ, i64_w, i32_w]
         rfl
        refine one_ (i := 4) (N := some 30) #[true, true, true, true, true, false, false, false] rfl rfl (one_of HT_.out (by kernel_rfl)) (by decide) (fun K hK => ?_)
        refine value_ (w1 := ?_) (v := ?_) (by rfl) rfl ?_ ?_
        rotate_left 2
        ·go_simp
         constructor
         ·rfl
         ·rfl
        refine hK.out _ _ ⟨(blk_cell (blk_alloc BK626.out _) 0).trans rfl, (blk_cell (blk_alloc BK626.out _) 1).trans rfl, (blk_cell (blk_alloc BK626.out _) 2).trans rfl, (blk_cell (blk_alloc BK626.out _) 3).trans rfl, (blk_cell (blk_alloc BK626.out _) 4).trans rfl⟩ (fun hHeld => ?_)
        clear hK K
        refine norm_ (a' := ?_) ?_ ?_
        rotate_left
        ·show Act.put _ (some 30) _ = _
         simp only [Act.put, List.setIfInBounds_toArray, List.set_cons_zero, List.set_cons_succ, i64_w, i32_w]
         rfl
        refine one_ (i := 5) (N := some 31) #[true, true, true, true, true, true, false, false] rfl rfl (one_of HT_.out (by kernel_rfl)) (by decide) (fun K hK => ?_)
        refine Kd.R_append_step (Kd.int .i64) w.heap.size (by rfl) (.tmp 27) (.tmp 30) 24 2 (.int .i64 0) 8 rfl Try.underlying24 info2 rfl (by decide) (by omega) u627001 x627001_2 t636 [.int .i64 t636] (fun k_ => some k_ ≠ (u627002 : Value).ownBlock) (fun _ => False) rfl rfl ?aP (fun _ hk => hk.elim) ?aF ?aO (Below.refl _ _) ?aS ?aL ?_
        (case aP => exact rfl)
        (case aF => exact (fun k_ hk => Kd.fresh' (Kd.R_lt (by (with_reducible repeat (first | apply Kd.R_alloc | apply Kd.R_drewN | apply Kd.R_drew)); exact HO_627002.out)) k_ hk))
        (case aO => exact (by (with_reducible repeat (first | apply Kd.R_alloc | apply Kd.R_drewN | apply Kd.R_drew)); exact HO_627001.out))
        (case aS => exact (keep_size (w := w) (g := g) (row := none) (by repeat (first | (with_reducible first | exact HK.out | apply KeepBut.set_ | apply keep_drewN | apply keep_drew | apply keep_alloc | refine keep_far ?_ GW613.out _ | refine keep_far ?_ GW626.out _) | exact HK.out))))
        (case aL => have := LMc29.out; omega)
        intro v640 w60 ho hb hg hat
        rw [← Ny639.out] at ho
        have n0_ := Aside0.mk (Kd.R_over' (by (with_reducible repeat (first | apply Kd.R_alloc | apply Kd.R_drewN | apply Kd.R_drew)); exact HO_627000.out) (Kd.R_typed (by (with_reducible repeat (first | apply Kd.R_alloc | apply Kd.R_drewN | apply Kd.R_drew)); exact HO_627001.out)) (by decide) hg)
        have n1_ := Aside0.mk (Kd.R_after (ok := (fun _ => True)) (by (with_reducible repeat (first | apply Kd.R_alloc | apply Kd.R_drewN | apply Kd.R_drew)); exact Kd.R_mono HO_627002.out (fun _ hk => ⟨trivial, hk⟩)) hg hat)
        have n2_ := Aside0.mk (blk_grown (g := gb613) (o := .cells #[.slice none 0 0, .slice none 0 0, .slice none 0 0, .int .i64 0, .int .i64 0] 64 (0, 0)) (by (with_reducible repeat (first | refine blk_drewN ?_ _ | refine blk_drew ?_ | refine blk_alloc ?_ _)); exact BK613.out) hg (Kd.R_ne HO_627001.out BK613.out (by decide)))
        have n3_ := Aside0.mk (blk_grown (g := gb626) (o := .cells #[.slice Ao17 y614.length co17, u627001, u627002, .int .i64 t623, .int .i64 t627] 64 (0, 0)) (by (with_reducible repeat (first | refine blk_drewN ?_ _ | refine blk_drew ?_ | refine blk_alloc ?_ _)); exact BK626.out) hg (Kd.R_ne HO_627001.out BK626.out (by decide)))
        have n4_ := Aside0.mk (IsS168.grown (by repeat (first | (with_reducible first | exact HI0.out | apply IsS168.alloc | apply IsS168.drewN | apply IsS168.drew | refine IsS168.far ?_ NB0_613.out _ | refine IsS168.far ?_ NB0_626.out _) | exact HI0.out)) hg (IsS168.own_ne HI0.out HO_627001.out (by decide)))
        have n5_ := Aside0.mk (below_weaken (by repeat (first | (with_reducible first | exact HB.out | apply below_alloc | apply pw_below_drewN | apply below_drew1 | refine below_set ?_ (IsS168.ge HI0.out) | refine below_set ?_ GE613.out | refine below_set ?_ GE626.out) | exact HB.out)) HL.out hb)
        have n6_ := Aside0.mk (KeepBut.trans (by repeat (first | (with_reducible first | exact HK.out | apply KeepBut.set_ | apply keep_drewN | apply keep_drew | apply keep_alloc | refine keep_far ?_ GW613.out _ | refine keep_far ?_ GW626.out _) | exact HK.out)) (KeepBut.of_grown hg g) (Kd.R_base2 HO_627001.out))
        have n7_ := Aside0.mk (ho)
        clear HO_627000
        clear HO_627002
        clear BK613
        clear BK626
        clear HI0
        clear HB
        clear HK
        clear HO_627001
        have HO_627000 := n0_
        have HO_627002 := n1_
        have BK613 := n2_
        have BK626 := n3_
        have HI0 := n4_
        have HB := n5_
        have HK := n6_
        have HO641 := n7_
        clear n0_ n1_ n2_ n3_ n4_ n5_ n6_ n7_
        clear ho hb hg hat
        obtain ⟨Ao61, co61, eo61⟩ := Kd.R_slice HO641.out
        (first | subst eo61 | (injection eo61 with f1_ f2_ f3_; have f4_ := f1_.symm; have f5_ := f3_.symm; clear f1_ f2_ f3_; subst f4_; subst f5_))
        refine hK.out _ _ ⟨(blk_cell BK626.out 0).trans rfl, (blk_cell BK626.out 1).trans rfl, (blk_cell BK626.out 2).trans rfl, (blk_cell BK626.out 3).trans rfl, (blk_cell BK626.out 4).trans rfl⟩ (fun hHeld => ?_)
        clear hK K
        refine norm_ (a' := ?_) ?_ ?_
        rotate_left
        ·show Act.put _ (some 31) _ = _
         simp only [Act.put, List.setIfInBounds_toArray, List.set_cons_zero, List.set_cons_succ, i64_w, i32_w]
         rfl
        refine pure_ (i := 6) (N := some 32) (v := ?_) (a' := ?_) #[true, true, true, true, true, true, true, false] rfl rfl (any_of HT_.out (by kernel_rfl)) (fun _ _ _ h => h) (Or.inl ⟨by rfl, ?_⟩) ?_ ?_
        rotate_left
        ·intro w'
         go_simp
         with_reducible rfl
        rotate_left
        ·simp only [Act.put, List.setIfInBounds_toArray, List.set_cons_zero, List.set_cons_succ, i64_w, i32_w]
         rfl
        refine last_ (i := 7) (N := none) #[true, true, true, true, true, true, true, true] rfl rfl (one_of HT_.out (by kernel_rfl)) (by decide) (fun K hK => ?_)
        have hs62 : w60.cell? ⟨gb626, 1, none⟩ = some (u627001) := (blk_cell BK626.out 1).trans rfl
        have hfs62 := blk_frozen BK626.out 1
        have hns62_0 := NB613_626.out
        have hms62_0 := NB626_613.out
        refine skip_ (w1 := ?_) (by rfl) rfl ?_ ?_
        rotate_left
        ·go_simp
         rfl
        refine hK.out _ _ ?_
        clear hK K
        refine done_ (done_of HT_.out (by kernel_rfl)) ?_
        have hnb63 := NB626_613.out
        have hnc63 := NB613_626.out
        have hnb64 := NB626_0.out
        have hnc64 := NB0_626.out
        have hcz65_0 : w60.cell? ⟨gb626, 0, none⟩ = some (.slice Ao17 y614.length co17) := (blk_cell BK626.out 0).trans rfl
        have hcz65_1 : w60.cell? ⟨gb626, 1, none⟩ = some (u627001) := (blk_cell BK626.out 1).trans rfl
        have hcz65_2 : w60.cell? ⟨gb626, 2, none⟩ = some (u627002) := (blk_cell BK626.out 2).trans rfl
        have hcz65_3 : w60.cell? ⟨gb626, 3, none⟩ = some (.int .i64 t623) := (blk_cell BK626.out 3).trans rfl
        have hcz65_4 : w60.cell? ⟨gb626, 4, none⟩ = some (.int .i64 t627) := (blk_cell BK626.out 4).trans rfl
        have hfz65_0 := blk_frozen BK626.out 0
        have hfz65_1 := blk_frozen BK626.out 1
        have hfz65_2 := blk_frozen BK626.out 2
        have hfz65_3 := blk_frozen BK626.out 3
        have hfz65_4 := blk_frozen BK626.out 4
        obtain ⟨Ao66, co66, eo66⟩ := Kd.R_slice HO_627002.out
        subst eo66
        try go_wp2
        go_roundg k2
        case measure => have := HJ5.out; have := HK2.out; omega
        case rel => exact ⟨(wrap64 (x5_2 + 1)), (t637), (t638), (y639), (x627002_2), (.slice Ao61 y639.length co61), (.slice Ao66 x627002_2.length co66), (by first | rfl | (simp; done) | (simp [*]; done) | (simp [Int.tdiv_eq_ediv_of_nonneg, *]; done)), H', ⟨by have := HJ5.out; have := HK2.out; omega⟩, ⟨by (with_reducible repeat (first | apply Kd.R_alloc | apply Kd.R_drewN | apply Kd.R_drew)); exact Kd.R_mono (Kd.R_far (p := ⟨gb626, 1, none⟩) (Kd.R_types HO_627000.out BK626.out (by decide)) (fun _ hk => hk.2) (.slice Ao61 y639.length co61)) (fun _ hk => trivial)⟩, ⟨by (with_reducible repeat (first | apply Kd.R_alloc | apply Kd.R_drewN | apply Kd.R_drew)); exact Kd.R_mono (Kd.R_far (p := ⟨gb626, 1, none⟩) (Kd.R_types HO641.out BK626.out (by decide)) (fun _ hk => hk.2) (.slice Ao61 y639.length co61)) (fun _ hk => hk.1)⟩, ⟨by (with_reducible repeat (first | apply Kd.R_alloc | apply Kd.R_drewN | apply Kd.R_drew)); exact Kd.R_mono (Kd.R_far (p := ⟨gb626, 1, none⟩) (Kd.R_types HO_627002.out BK626.out (by decide)) (fun _ hk => hk.2) (.slice Ao61 y639.length co61)) (fun _ hk => hk.1.2)⟩, ⟨by (with_reducible repeat (first | refine blk_drewN ?_ _ | refine blk_drew ?_ | refine blk_alloc ?_ _)); refine blk_far ?_ NB613_626.out _; (with_reducible repeat (first | refine blk_drewN ?_ _ | refine blk_drew ?_ | refine blk_alloc ?_ _)); exact BK613.out⟩, ⟨by (with_reducible repeat (first | refine blk_drewN ?_ _ | refine blk_drew ?_ | refine blk_alloc ?_ _)); refine blk_put (cs := #[.slice Ao17 y614.length co17, u627001, .slice Ao66 x627002_2.length co66, .int .i64 t623, .int .i64 t627]) ?_ 1 _ rfl; (with_reducible repeat (first | refine blk_drewN ?_ _ | refine blk_drew ?_ | refine blk_alloc ?_ _)); exact BK626.out⟩, ⟨by repeat (first | (with_reducible first | exact HI0.out | apply IsS168.alloc | apply IsS168.drewN | apply IsS168.drew | refine IsS168.far ?_ NB0_613.out _ | refine IsS168.far ?_ NB0_626.out _) | exact HI0.out)⟩, ⟨by repeat (first | (with_reducible first | exact HK.out | apply KeepBut.set_ | apply keep_drewN | apply keep_drew | apply keep_alloc | refine keep_far ?_ GW613.out _ | refine keep_far ?_ GW626.out _) | exact HK.out)⟩, ⟨by repeat (first | (with_reducible first | exact HB.out | apply below_alloc | apply pw_below_drewN | apply below_drew1 | refine below_set ?_ (IsS168.ge HI0.out) | refine below_set ?_ GE613.out | refine below_set ?_ GE626.out) | exact HB.out)⟩⟩
      ·rw [if_neg c29] at H
       exact absurd H (by simp)
     ·rw [if_neg c27] at H
      have c27b0 : decide (x5_2 < x4_5) = false := decide_eq_false c27
      clear c27
      replace H := Option.bind_eq_some_iff.mp H
      obtain ⟨⟨t648, t649, t650⟩, A670, H⟩ := H
      replace H : (spec_l08DrawOk.l1 k2 (wrap64 (1 + t648)) s0_0 t649 t650 y614 x627001_2 x627002_2 t623 t627) = some (r1, r2, r3, r4, r5, r6, r7) := H
      have A67 := Aside0.mk A670
      clear A670
      have H' := Aside0.mk H
      clear H
      go_wp2_with (first | ((with_reducible refine gate_callee (f := 74) rfl ?_); refine goesL_ (some 48) rfl rfl Try.func74 (by kernel_rfl) rfl #[.pointer (some ⟨g, 0, none⟩), .int .i64 3] rfl (by (try simp only [List.map_toArray, List.map_cons, List.map_nil]); first | done | rfl | (simp only [List.length_drop, List.length_take]; rfl)) ?_; (with_reducible refine (spec_l00Src_pick.calls g s0_0 x1001_2 x1002_2 3 t648 t649 t650 w0 _ ?side1 ?side2 A67.out).mono ?_); (case side1 => repeat (first | (with_reducible first | exact HI0.out | apply IsS168.alloc | apply IsS168.drewN | apply IsS168.drew | refine IsS168.far ?_ NB0_613.out _ | refine IsS168.far ?_ NB0_626.out _) | exact HI0.out)); (case side2 => repeat (first | (with_reducible first | exact HB.out | apply below_alloc | apply pw_below_drewN | apply below_drew1 | refine below_set ?_ (IsS168.ge HI0.out) | refine below_set ?_ GE613.out | refine below_set ?_ GE626.out) | exact HB.out)); rintro e w68 ⟨rfl, hi, hb, hk⟩; refine ⟨_, rfl, ?_⟩; have n0_ := Aside0.mk (Kd.R_mono (Kd.R_keep (IsS168.apart (show IsS168 w0 _ g s0_0 x1001_2 x1002_2 from by repeat (first | (with_reducible first | exact HI0.out | apply IsS168.alloc | apply IsS168.drewN | apply IsS168.drew | refine IsS168.far ?_ NB0_613.out _ | refine IsS168.far ?_ NB0_626.out _) | exact HI0.out)) (by (with_reducible repeat (first | apply Kd.R_alloc | apply Kd.R_drewN | apply Kd.R_drew)); exact HO_627000.out) (by decide)) hk (fun _ h => h.2)) (fun _ h => h.1)); have n1_ := Aside0.mk (Kd.R_mono (Kd.R_keep (IsS168.apart (show IsS168 w0 _ g s0_0 x1001_2 x1002_2 from by repeat (first | (with_reducible first | exact HI0.out | apply IsS168.alloc | apply IsS168.drewN | apply IsS168.drew | refine IsS168.far ?_ NB0_613.out _ | refine IsS168.far ?_ NB0_626.out _) | exact HI0.out)) (by (with_reducible repeat (first | apply Kd.R_alloc | apply Kd.R_drewN | apply Kd.R_drew)); exact HO_627001.out) (by decide)) hk (fun _ h => h.2)) (fun _ h => h.1)); have n2_ := Aside0.mk (Kd.R_mono (Kd.R_keep (IsS168.apart (show IsS168 w0 _ g s0_0 x1001_2 x1002_2 from by repeat (first | (with_reducible first | exact HI0.out | apply IsS168.alloc | apply IsS168.drewN | apply IsS168.drew | refine IsS168.far ?_ NB0_613.out _ | refine IsS168.far ?_ NB0_626.out _) | exact HI0.out)) (by (with_reducible repeat (first | apply Kd.R_alloc | apply Kd.R_drewN | apply Kd.R_drew)); exact HO_627002.out) (by decide)) hk (fun _ h => h.2)) (fun _ h => h.1)); have n3_ := Aside0.mk (KeepBut.blk hk (g' := gb613) (o := .cells #[.slice none 0 0, .slice none 0 0, .slice none 0 0, .int .i64 0, .int .i64 0] 64 (0, 0)) (by (with_reducible repeat (first | refine blk_drewN ?_ _ | refine blk_drew ?_ | refine blk_alloc ?_ _)); exact BK613.out) NB613_0.out (by simp)); have n4_ := Aside0.mk (KeepBut.blk hk (g' := gb626) (o := .cells #[.slice Ao17 y614.length co17, u627001, u627002, .int .i64 t623, .int .i64 t627] 64 (0, 0)) (by (with_reducible repeat (first | refine blk_drewN ?_ _ | refine blk_drew ?_ | refine blk_alloc ?_ _)); exact BK626.out) NB626_0.out (by simp)); have n5_ := Aside0.mk (KeepBut.trans (by repeat (first | (with_reducible first | exact HK.out | apply KeepBut.set_ | apply keep_drewN | apply keep_drew | apply keep_alloc | refine keep_far ?_ GW613.out _ | refine keep_far ?_ GW626.out _) | exact HK.out)) hk (.inl rfl)); have n6_ := Aside0.mk (hb); have n7_ := Aside0.mk (hi); clear HO_627000; clear HO_627001; clear HO_627002; clear BK613; clear BK626; clear HK; clear HB; clear HI0; have HO_627000 := n0_; have HO_627001 := n1_; have HO_627002 := n2_; have BK613 := n3_; have BK626 := n4_; have HK := n5_; have HB := n6_; have HI0 := n7_; clear n0_ n1_ n2_ n3_ n4_ n5_ n6_ n7_; (try clear hb); (try clear hb2); (try clear hk); (try clear hi)))
      go_loopg [6] k2 (fun kq v6 w' => ∃ (x6_3 : Int) (x1001_3 : Int) (x1002_3 : Int) (x627000_3 : List (S79)) (u627000 : Value), v6 = .int .i64 x6_3 ∧ Aside0 (spec_l08DrawOk.l1 kq x6_3 s0_0 x1001_3 x1002_3 x627000_3 x627001_2 x627002_2 t623 t627 = some (r1, r2, r3, r4, r5, r6, r7)) ∧ Aside0 (kq ≤ k2) ∧ Aside0 (Kd.R k79 79 w' w.heap.size (fun _ => True) u627000 x627000_3) ∧ Aside0 (Kd.R (Kd.int .i64) 2 w' w.heap.size (fun k_ => some k_ ≠ (u627002 : Value).ownBlock) u627001 x627001_2) ∧ Aside0 (Kd.R (Kd.int .i64) 2 w' w.heap.size (fun k_ => some k_ ≠ (u627001 : Value).ownBlock) u627002 x627002_2) ∧ Aside0 (w'.heap[gb613]? = some (.cells #[(.slice none 0 0), (.slice none 0 0), (.slice none 0 0), .int .i64 0, .int .i64 0] 64 (0, 0))) ∧ Aside0 (w'.heap[gb626]? = some (.cells #[u627000, u627001, u627002, .int .i64 t623, .int .i64 t627] 64 (0, 0))) ∧ Aside0 (IsS168 w0 w' g s0_0 x1001_3 x1002_3) ∧ Aside0 (KeepBut w w' g none) ∧ Aside0 (Below w0.heap.size w0 w'))
      case atStart => exact ⟨(wrap64 (1 + t648)), (t649), (t650), (y614), (.slice Ao17 y614.length co17), (by first | rfl | (simp; done) | (simp [*]; done) | (simp [Int.tdiv_eq_ediv_of_nonneg, *]; done)), H', ⟨Nat.le_refl _⟩, ⟨by (with_reducible repeat (first | apply Kd.R_alloc | apply Kd.R_drewN | apply Kd.R_drew)); exact HO_627000.out⟩, ⟨by (with_reducible repeat (first | apply Kd.R_alloc | apply Kd.R_drewN | apply Kd.R_drew)); exact HO_627001.out⟩, ⟨by (with_reducible repeat (first | apply Kd.R_alloc | apply Kd.R_drewN | apply Kd.R_drew)); exact HO_627002.out⟩, ⟨by (with_reducible repeat (first | refine blk_drewN ?_ _ | refine blk_drew ?_ | refine blk_alloc ?_ _)); exact BK613.out⟩, ⟨by (with_reducible repeat (first | refine blk_drewN ?_ _ | refine blk_drew ?_ | refine blk_alloc ?_ _)); exact BK626.out⟩, ⟨by repeat (first | (with_reducible first | exact HI0.out | apply IsS168.alloc | apply IsS168.drewN | apply IsS168.drew | refine IsS168.far ?_ NB0_613.out _ | refine IsS168.far ?_ NB0_626.out _) | exact HI0.out)⟩, ⟨by repeat (first | (with_reducible first | exact HK.out | apply KeepBut.set_ | apply keep_drewN | apply keep_drew | apply keep_alloc | refine keep_far ?_ GW613.out _ | refine keep_far ?_ GW626.out _) | exact HK.out)⟩, ⟨by repeat (first | (with_reducible first | exact HB.out | apply below_alloc | apply pw_below_drewN | apply below_drew1 | refine below_set ?_ (IsS168.ge HI0.out) | refine below_set ?_ GE613.out | refine below_set ?_ GE626.out) | exact HB.out)⟩⟩
      case round =>
       clear H'
       try clear c2
       try clear p2
       try clear c3
       try clear c4
       try clear c5
       try clear c6
       try clear p6
       try clear c7
       try clear c27
       try clear c27b0
       try clear c29
       try clear c30
       try clear c30b0
       try clear c30b1
       try clear c32
       try clear c33
       try clear c39
       try clear c40
       try clear c53
       try clear c54
       try clear c63
       try clear c64
       try clear p64
       try clear hcz41_0
       try clear hcz41_1
       try clear hcz41_2
       try clear hcz41_3
       try clear hcz41_4
       try clear hcz44_0
       try clear hcz44_1
       try clear hcz44_2
       try clear hcz44_3
       try clear hcz44_4
       try clear hcz47_0
       try clear hcz47_1
       try clear hcz47_2
       try clear hcz47_3
       try clear hcz47_4
       try clear hcz55_0
       try clear hcz55_1
       try clear hcz55_2
       try clear hcz55_3
       try clear hcz55_4
       try clear hcz65_0
       try clear hcz65_1
       try clear hcz65_2
       try clear hcz65_3
       try clear hcz65_4
       try clear hfz41_0
       try clear hfz41_1
       try clear hfz41_2
       try clear hfz41_3
       try clear hfz41_4
       try clear hfz44_0
       try clear hfz44_1
       try clear hfz44_2
       try clear hfz44_3
       try clear hfz44_4
       try clear hfz47_0
       try clear hfz47_1
       try clear hfz47_2
       try clear hfz47_3
       try clear hfz47_4
       try clear hfz55_0
       try clear hfz55_1
       try clear hfz55_2
       try clear hfz55_3
       try clear hfz55_4
       try clear hfz65_0
       try clear hfz65_1
       try clear hfz65_2
       try clear hfz65_3
       try clear hfz65_4
       obtain ⟨x6_3, x1001_3, x1002_3, x627000_3, u627000, rfl, HA, HK3, HO_627000, HO_627001, HO_627002, BK613, BK626, HI0, HK, HB⟩ := hrel
       cases gk with
       | zero => exact absurd HA.out (by simp [spec_l08DrawOk.l1])
       | succ k3 =>
        have H := HA.out
        clear HA
        simp only [spec_l08DrawOk.l1] at H
        by_cases c69 : x6_3 > 0
        ·rw [if_pos c69] at H
         have c69b0 : decide (0 < x6_3) = true := decide_eq_true c69
         clear c69
         replace H := Option.bind_eq_some_iff.mp H
         obtain ⟨⟨t651, t652, t653⟩, A700, H⟩ := H
         replace H : ((spec_l00Src_pick.f s0_0 t652 t653 80).bind fun bt655 => (if x627000_3.length < 8796093022208 then (spec_l08DrawOk.l1 k3 (wrap64 (x6_3 - 1)) s0_0 bt655.2.1 bt655.2.2 (x627000_3 ++ [(⟨wrap64 (1 + t651), wrap64 (20 + bt655.1)⟩ : S79)]) x627001_2 x627002_2 t623 t627) else (none))) = some (r1, r2, r3, r4, r5, r6, r7) := H
         have A70 := Aside0.mk A700
         clear A700
         replace H := Option.bind_eq_some_iff.mp H
         obtain ⟨⟨t655, t656, t657⟩, A710, H⟩ := H
         replace H : (if x627000_3.length < 8796093022208 then (spec_l08DrawOk.l1 k3 (wrap64 (x6_3 - 1)) s0_0 t656 t657 (x627000_3 ++ [(⟨wrap64 (1 + t651), wrap64 (20 + t655)⟩ : S79)]) x627001_2 x627002_2 t623 t627) else (none)) = some (r1, r2, r3, r4, r5, r6, r7) := H
         have A71 := Aside0.mk A710
         clear A710
         by_cases c72 : x627000_3.length < 8796093022208
         ·rw [if_pos c72] at H
          have LMc72 := Aside0.mk c72
          clear c72
          obtain ⟨y658, hy658⟩ : ∃ y_ : List (S79), y_ = (x627000_3 ++ [(⟨wrap64 (1 + t651), wrap64 (20 + t655)⟩ : S79)]) := ⟨_, rfl⟩
          replace H : (spec_l08DrawOk.l1 k3 (wrap64 (x6_3 - 1)) s0_0 t656 t657 y658 x627001_2 x627002_2 t623 t627) = some (r1, r2, r3, r4, r5, r6, r7) := by first | (rw [hy658]; with_reducible exact H) | (have H2_ := (Option.bind_some _ _).symm.trans H; rw [hy658]; with_reducible exact H2_) | (have H2_ := (Option.bind_some _ _).symm.trans H; with_reducible exact H2_) | with_reducible exact H | (rw [hy658]; exact H) | exact H
          have Ny658 := Aside0.mk hy658
          clear hy658
          have H' := Aside0.mk H
          clear H
          go_wp2_with (first | ((with_reducible refine gate_callee (f := 74) rfl ?_); refine goesL_ (some 55) rfl rfl Try.func74 (by kernel_rfl) rfl #[.pointer (some ⟨g, 0, none⟩), .int .i64 6] rfl (by (try simp only [List.map_toArray, List.map_cons, List.map_nil]); first | done | rfl | (simp only [List.length_drop, List.length_take]; rfl)) ?_; (with_reducible refine (spec_l00Src_pick.calls g s0_0 x1001_3 x1002_3 6 t651 t652 t653 w0 _ ?side1 ?side2 A70.out).mono ?_); (case side1 => repeat (first | (with_reducible first | exact HI0.out | apply IsS168.alloc | apply IsS168.drewN | apply IsS168.drew | refine IsS168.far ?_ NB0_613.out _ | refine IsS168.far ?_ NB0_626.out _) | exact HI0.out)); (case side2 => repeat (first | (with_reducible first | exact HB.out | apply below_alloc | apply pw_below_drewN | apply below_drew1 | refine below_set ?_ (IsS168.ge HI0.out) | refine below_set ?_ GE613.out | refine below_set ?_ GE626.out) | exact HB.out)); rintro e w73 ⟨rfl, hi, hb, hk⟩; refine ⟨_, rfl, ?_⟩; have n0_ := Aside0.mk (Kd.R_mono (Kd.R_keep (IsS168.apart (show IsS168 w0 _ g s0_0 x1001_3 x1002_3 from by repeat (first | (with_reducible first | exact HI0.out | apply IsS168.alloc | apply IsS168.drewN | apply IsS168.drew | refine IsS168.far ?_ NB0_613.out _ | refine IsS168.far ?_ NB0_626.out _) | exact HI0.out)) (by (with_reducible repeat (first | apply Kd.R_alloc | apply Kd.R_drewN | apply Kd.R_drew)); exact HO_627000.out) (by decide)) hk (fun _ h => h.2)) (fun _ h => h.1)); have n1_ := Aside0.mk (Kd.R_mono (Kd.R_keep (IsS168.apart (show IsS168 w0 _ g s0_0 x1001_3 x1002_3 from by repeat (first | (with_reducible first | exact HI0.out | apply IsS168.alloc | apply IsS168.drewN | apply IsS168.drew | refine IsS168.far ?_ NB0_613.out _ | refine IsS168.far ?_ NB0_626.out _) | exact HI0.out)) (by (with_reducible repeat (first | apply Kd.R_alloc | apply Kd.R_drewN | apply Kd.R_drew)); exact HO_627001.out) (by decide)) hk (fun _ h => h.2)) (fun _ h => h.1)); have n2_ := Aside0.mk (Kd.R_mono (Kd.R_keep (IsS168.apart (show IsS168 w0 _ g s0_0 x1001_3 x1002_3 from by repeat (first | (with_reducible first | exact HI0.out | apply IsS168.alloc | apply IsS168.drewN | apply IsS168.drew | refine IsS168.far ?_ NB0_613.out _ | refine IsS168.far ?_ NB0_626.out _) | exact HI0.out)) (by (with_reducible repeat (first | apply Kd.R_alloc | apply Kd.R_drewN | apply Kd.R_drew)); exact HO_627002.out) (by decide)) hk (fun _ h => h.2)) (fun _ h => h.1)); have n3_ := Aside0.mk (KeepBut.blk hk (g' := gb613) (o := .cells #[.slice none 0 0, .slice none 0 0, .slice none 0 0, .int .i64 0, .int .i64 0] 64 (0, 0)) (by (with_reducible repeat (first | refine blk_drewN ?_ _ | refine blk_drew ?_ | refine blk_alloc ?_ _)); exact BK613.out) NB613_0.out (by simp)); have n4_ := Aside0.mk (KeepBut.blk hk (g' := gb626) (o := .cells #[u627000, u627001, u627002, .int .i64 t623, .int .i64 t627] 64 (0, 0)) (by (with_reducible repeat (first | refine blk_drewN ?_ _ | refine blk_drew ?_ | refine blk_alloc ?_ _)); exact BK626.out) NB626_0.out (by simp)); have n5_ := Aside0.mk (KeepBut.trans (by repeat (first | (with_reducible first | exact HK.out | apply KeepBut.set_ | apply keep_drewN | apply keep_drew | apply keep_alloc | refine keep_far ?_ GW613.out _ | refine keep_far ?_ GW626.out _) | exact HK.out)) hk (.inl rfl)); have n6_ := Aside0.mk (hb); have n7_ := Aside0.mk (hi); clear HO_627000; clear HO_627001; clear HO_627002; clear BK613; clear BK626; clear HK; clear HB; clear HI0; have HO_627000 := n0_; have HO_627001 := n1_; have HO_627002 := n2_; have BK613 := n3_; have BK626 := n4_; have HK := n5_; have HB := n6_; have HI0 := n7_; clear n0_ n1_ n2_ n3_ n4_ n5_ n6_ n7_; (try clear hb); (try clear hb2); (try clear hk); (try clear hi)) | ((with_reducible refine gate_dst (N := 7) rfl ?_); refine box_event ?hg (N := 7) ?hd (cs := #[.int .i64 0, .int .i64 0]) (t := 79) ?hr ?_; (case hd => rfl); (case hg => rfl); (case hr => first | (go_simp; done) | (go_simp; rfl)); intro gb654 hg w74 hbox hb; have n0_ := Aside0.mk (Kd.R_below (Kd.R_elderB (by (with_reducible repeat (first | apply Kd.R_alloc | apply Kd.R_drewN | apply Kd.R_drew)); exact HO_627000.out) gb654 (Nat.le_of_eq hg.symm)) hb); have n1_ := Aside0.mk (Kd.R_below (by (with_reducible repeat (first | apply Kd.R_alloc | apply Kd.R_drewN | apply Kd.R_drew)); exact HO_627001.out) hb); have n2_ := Aside0.mk (Kd.R_below (by (with_reducible repeat (first | apply Kd.R_alloc | apply Kd.R_drewN | apply Kd.R_drew)); exact HO_627002.out) hb); have n3_ := Aside0.mk (blk_below (g := gb613) (o := .cells #[.slice none 0 0, .slice none 0 0, .slice none 0 0, .int .i64 0, .int .i64 0] 64 (0, 0)) (by (with_reducible repeat (first | refine blk_drewN ?_ _ | refine blk_drew ?_ | refine blk_alloc ?_ _)); exact BK613.out) hb); have n4_ := Aside0.mk (blk_below (g := gb626) (o := .cells #[u627000, u627001, u627002, .int .i64 t623, .int .i64 t627] 64 (0, 0)) (by (with_reducible repeat (first | refine blk_drewN ?_ _ | refine blk_drew ?_ | refine blk_alloc ?_ _)); exact BK626.out) hb); have n5_ := Aside0.mk (IsS168.below (by repeat (first | (with_reducible first | exact HI0.out | apply IsS168.alloc | apply IsS168.drewN | apply IsS168.drew | refine IsS168.far ?_ NB0_613.out _ | refine IsS168.far ?_ NB0_626.out _) | exact HI0.out)) hb); have n6_ := Aside0.mk (KeepBut.trans (by repeat (first | (with_reducible first | exact HK.out | apply KeepBut.set_ | apply keep_drewN | apply keep_drew | apply keep_alloc | refine keep_far ?_ GW613.out _ | refine keep_far ?_ GW626.out _) | exact HK.out)) (KeepBut.of_below hb g none) (.inl rfl)); have n7_ := Aside0.mk (below_step (by repeat (first | (with_reducible first | exact HB.out | apply below_alloc | apply pw_below_drewN | apply below_drew1 | refine below_set ?_ (IsS168.ge HI0.out) | refine below_set ?_ GE613.out | refine below_set ?_ GE626.out) | exact HB.out)) hb); have n8_ := Aside0.mk (hbox); have n9_ := Aside0.mk ((by rw [hg]; exact (keep_size (w := w) (g := g) (row := none) (by repeat (first | (with_reducible first | exact HK.out | apply KeepBut.set_ | apply keep_drewN | apply keep_drew | apply keep_alloc | refine keep_far ?_ GW613.out _ | refine keep_far ?_ GW626.out _) | exact HK.out))) : w.heap.size ≤ gb654)); have n10_ := Aside0.mk ((Nat.le_trans HW0.out (by rw [hg]; exact (keep_size (w := w) (g := g) (row := none) (by repeat (first | (with_reducible first | exact HK.out | apply KeepBut.set_ | apply keep_drewN | apply keep_drew | apply keep_alloc | refine keep_far ?_ GW613.out _ | refine keep_far ?_ GW626.out _) | exact HK.out))) : w.heap.size ≤ gb654) : w0.heap.size ≤ gb654)); have n11_ := Aside0.mk ((by rw [hg]; exact Nat.ne_of_lt (blk_lt (g := gb613) (o := .cells #[.slice none 0 0, .slice none 0 0, .slice none 0 0, .int .i64 0, .int .i64 0] 64 (0, 0)) (by (with_reducible repeat (first | refine blk_drewN ?_ _ | refine blk_drew ?_ | refine blk_alloc ?_ _)); exact BK613.out)) : gb613 ≠ gb654)); have n12_ := Aside0.mk ((by rw [hg]; exact Nat.ne_of_gt (blk_lt (g := gb613) (o := .cells #[.slice none 0 0, .slice none 0 0, .slice none 0 0, .int .i64 0, .int .i64 0] 64 (0, 0)) (by (with_reducible repeat (first | refine blk_drewN ?_ _ | refine blk_drew ?_ | refine blk_alloc ?_ _)); exact BK613.out)) : gb654 ≠ gb613)); have n13_ := Aside0.mk ((by rw [hg]; exact Nat.ne_of_lt (blk_lt (g := gb626) (o := .cells #[u627000, u627001, u627002, .int .i64 t623, .int .i64 t627] 64 (0, 0)) (by (with_reducible repeat (first | refine blk_drewN ?_ _ | refine blk_drew ?_ | refine blk_alloc ?_ _)); exact BK626.out)) : gb626 ≠ gb654)); have n14_ := Aside0.mk ((by rw [hg]; exact Nat.ne_of_gt (blk_lt (g := gb626) (o := .cells #[u627000, u627001, u627002, .int .i64 t623, .int .i64 t627] 64 (0, 0)) (by (with_reducible repeat (first | refine blk_drewN ?_ _ | refine blk_drew ?_ | refine blk_alloc ?_ _)); exact BK626.out)) : gb654 ≠ gb626)); have n15_ := Aside0.mk ((by rw [hg]; exact Nat.ne_of_lt (IsS168.lt (show IsS168 w0 _ g s0_0 t652 t653 from by repeat (first | (with_reducible first | exact HI0.out | apply IsS168.alloc | apply IsS168.drewN | apply IsS168.drew | refine IsS168.far ?_ NB0_613.out _ | refine IsS168.far ?_ NB0_626.out _) | exact HI0.out))) : g ≠ gb654)); have n16_ := Aside0.mk ((by rw [hg]; exact Nat.ne_of_gt (IsS168.lt (show IsS168 w0 _ g s0_0 t652 t653 from by repeat (first | (with_reducible first | exact HI0.out | apply IsS168.alloc | apply IsS168.drewN | apply IsS168.drew | refine IsS168.far ?_ NB0_613.out _ | refine IsS168.far ?_ NB0_626.out _) | exact HI0.out))) : gb654 ≠ g)); clear HO_627000; clear HO_627001; clear HO_627002; clear BK613; clear BK626; clear HI0; clear HK; clear HB; have HO_627000 := n0_; have HO_627001 := n1_; have HO_627002 := n2_; have BK613 := n3_; have BK626 := n4_; have HI0 := n5_; have HK := n6_; have HB := n7_; have BK654 := n8_; have GW654 := n9_; have GE654 := n10_; have NB613_654 := n11_; have NB654_613 := n12_; have NB626_654 := n13_; have NB654_626 := n14_; have NB0_654 := n15_; have NB654_0 := n16_; clear n0_ n1_ n2_ n3_ n4_ n5_ n6_ n7_ n8_ n9_ n10_ n11_ n12_ n13_ n14_ n15_ n16_; clear hb hbox hg; have hnb75 := NB654_613.out; have hnc75 := NB613_654.out; have hnb76 := NB654_626.out; have hnc76 := NB626_654.out; have hnb77 := NB654_0.out; have hnc77 := NB0_654.out; have hcz78_0 : w74.cell? ⟨gb654, 0, none⟩ = some (.int .i64 0) := (blk_cell BK654.out 0).trans rfl; have hcz78_1 : w74.cell? ⟨gb654, 1, none⟩ = some (.int .i64 0) := (blk_cell BK654.out 1).trans rfl; have hfz78_0 := blk_frozen BK654.out 0; have hfz78_1 := blk_frozen BK654.out 1) | ((with_reducible refine gate_callee (f := 74) rfl ?_); refine goesL_ (some 59) rfl rfl Try.func74 (by kernel_rfl) rfl #[.pointer (some ⟨g, 0, none⟩), .int .i64 80] rfl (by (try simp only [List.map_toArray, List.map_cons, List.map_nil]); first | done | rfl | (simp only [List.length_drop, List.length_take]; rfl)) ?_; (with_reducible refine (spec_l00Src_pick.calls g s0_0 t652 t653 80 t655 t656 t657 w0 _ ?side1 ?side2 A71.out).mono ?_); (case side1 => repeat (first | (with_reducible first | exact HI0.out | apply IsS168.alloc | apply IsS168.drewN | apply IsS168.drew | refine IsS168.far ?_ NB0_613.out _ | refine IsS168.far ?_ NB0_626.out _ | refine IsS168.far ?_ NB0_654.out _) | exact HI0.out)); (case side2 => repeat (first | (with_reducible first | exact HB.out | apply below_alloc | apply pw_below_drewN | apply below_drew1 | refine below_set ?_ (IsS168.ge HI0.out) | refine below_set ?_ GE613.out | refine below_set ?_ GE626.out | refine below_set ?_ GE654.out) | exact HB.out)); rintro e w79 ⟨rfl, hi, hb, hk⟩; refine ⟨_, rfl, ?_⟩; have n0_ := Aside0.mk (Kd.R_mono (Kd.R_keep (IsS168.apart (show IsS168 w0 _ g s0_0 t652 t653 from by repeat (first | (with_reducible first | exact HI0.out | apply IsS168.alloc | apply IsS168.drewN | apply IsS168.drew | refine IsS168.far ?_ NB0_613.out _ | refine IsS168.far ?_ NB0_626.out _ | refine IsS168.far ?_ NB0_654.out _) | exact HI0.out)) (by (with_reducible repeat (first | apply Kd.R_alloc | apply Kd.R_drewN | apply Kd.R_drew)); exact (Kd.R_mono (Kd.R_far (p := ⟨gb654, 1, none⟩) (Kd.R_far (p := ⟨gb654, 0, none⟩) (Kd.R_mono HO_627000.out (fun k_ hk => (⟨hk, hk.2⟩ : _ ∧ k_ ≠ gb654))) (fun _ hk => hk.2) (.int .i64 (wrap64 (1 + t651)))) (fun _ hk => hk.2) (.int .i64 0)) (fun _ h_ => h_.1))) (by decide)) hk (fun _ h => h.2)) (fun _ h => h.1)); have n1_ := Aside0.mk (Kd.R_mono (Kd.R_keep (IsS168.apart (show IsS168 w0 _ g s0_0 t652 t653 from by repeat (first | (with_reducible first | exact HI0.out | apply IsS168.alloc | apply IsS168.drewN | apply IsS168.drew | refine IsS168.far ?_ NB0_613.out _ | refine IsS168.far ?_ NB0_626.out _ | refine IsS168.far ?_ NB0_654.out _) | exact HI0.out)) (by (with_reducible repeat (first | apply Kd.R_alloc | apply Kd.R_drewN | apply Kd.R_drew)); exact (Kd.R_mono (Kd.R_far (p := ⟨gb654, 1, none⟩) (Kd.R_far (p := ⟨gb654, 0, none⟩) (Kd.R_types HO_627001.out BK654.out (by decide)) (fun _ hk => hk.2) (.int .i64 (wrap64 (1 + t651)))) (fun _ hk => hk.2) (.int .i64 0)) (fun _ h_ => h_.1))) (by decide)) hk (fun _ h => h.2)) (fun _ h => h.1)); have n2_ := Aside0.mk (Kd.R_mono (Kd.R_keep (IsS168.apart (show IsS168 w0 _ g s0_0 t652 t653 from by repeat (first | (with_reducible first | exact HI0.out | apply IsS168.alloc | apply IsS168.drewN | apply IsS168.drew | refine IsS168.far ?_ NB0_613.out _ | refine IsS168.far ?_ NB0_626.out _ | refine IsS168.far ?_ NB0_654.out _) | exact HI0.out)) (by (with_reducible repeat (first | apply Kd.R_alloc | apply Kd.R_drewN | apply Kd.R_drew)); exact (Kd.R_mono (Kd.R_far (p := ⟨gb654, 1, none⟩) (Kd.R_far (p := ⟨gb654, 0, none⟩) (Kd.R_types HO_627002.out BK654.out (by decide)) (fun _ hk => hk.2) (.int .i64 (wrap64 (1 + t651)))) (fun _ hk => hk.2) (.int .i64 0)) (fun _ h_ => h_.1))) (by decide)) hk (fun _ h => h.2)) (fun _ h => h.1)); have n3_ := Aside0.mk (KeepBut.blk hk (g' := gb613) (o := .cells #[.slice none 0 0, .slice none 0 0, .slice none 0 0, .int .i64 0, .int .i64 0] 64 (0, 0)) (by (with_reducible repeat (first | refine blk_drewN ?_ _ | refine blk_drew ?_ | refine blk_alloc ?_ _)); refine blk_far ?_ NB613_654.out _; (with_reducible repeat (first | refine blk_drewN ?_ _ | refine blk_drew ?_ | refine blk_alloc ?_ _)); refine blk_far ?_ NB613_654.out _; (with_reducible repeat (first | refine blk_drewN ?_ _ | refine blk_drew ?_ | refine blk_alloc ?_ _)); exact BK613.out) NB613_0.out (by simp)); have n4_ := Aside0.mk (KeepBut.blk hk (g' := gb626) (o := .cells #[u627000, u627001, u627002, .int .i64 t623, .int .i64 t627] 64 (0, 0)) (by (with_reducible repeat (first | refine blk_drewN ?_ _ | refine blk_drew ?_ | refine blk_alloc ?_ _)); refine blk_far ?_ NB626_654.out _; (with_reducible repeat (first | refine blk_drewN ?_ _ | refine blk_drew ?_ | refine blk_alloc ?_ _)); refine blk_far ?_ NB626_654.out _; (with_reducible repeat (first | refine blk_drewN ?_ _ | refine blk_drew ?_ | refine blk_alloc ?_ _)); exact BK626.out) NB626_0.out (by simp)); have n5_ := Aside0.mk (KeepBut.blk hk (g' := gb654) (o := .cells #[.int .i64 (wrap64 (1 + t651)), .int .i64 0] 79 (0, 0)) (by (with_reducible repeat (first | refine blk_drewN ?_ _ | refine blk_drew ?_ | refine blk_alloc ?_ _)); refine blk_put (cs := #[.int .i64 (wrap64 (1 + t651)), .int .i64 0]) ?_ 1 _ rfl; (with_reducible repeat (first | refine blk_drewN ?_ _ | refine blk_drew ?_ | refine blk_alloc ?_ _)); refine blk_put (cs := #[.int .i64 0, .int .i64 0]) ?_ 0 _ rfl; (with_reducible repeat (first | refine blk_drewN ?_ _ | refine blk_drew ?_ | refine blk_alloc ?_ _)); exact BK654.out) NB654_0.out (by simp)); have n6_ := Aside0.mk (KeepBut.trans (by repeat (first | (with_reducible first | exact HK.out | apply KeepBut.set_ | apply keep_drewN | apply keep_drew | apply keep_alloc | refine keep_far ?_ GW613.out _ | refine keep_far ?_ GW626.out _ | refine keep_far ?_ GW654.out _) | exact HK.out)) hk (.inl rfl)); have n7_ := Aside0.mk (hb); have n8_ := Aside0.mk (hi); clear HO_627000; clear HO_627001; clear HO_627002; clear BK613; clear BK626; clear BK654; clear HK; clear HB; clear HI0; have HO_627000 := n0_; have HO_627001 := n1_; have HO_627002 := n2_; have BK613 := n3_; have BK626 := n4_; have BK654 := n5_; have HK := n6_; have HB := n7_; have HI0 := n8_; clear n0_ n1_ n2_ n3_ n4_ n5_ n6_ n7_ n8_; (try clear hb); (try clear hb2); (try clear hk); (try clear hi); have hcz80_0 : w79.cell? ⟨gb654, 0, none⟩ = some (.int .i64 (wrap64 (1 + t651))) := (blk_cell BK654.out 0).trans rfl; have hcz80_1 : w79.cell? ⟨gb654, 1, none⟩ = some (.int .i64 0) := (blk_cell BK654.out 1).trans rfl; have hfz80_0 := blk_frozen BK654.out 0; have hfz80_1 := blk_frozen BK654.out 1; have hnb81 := NB626_613.out; have hnc81 := NB613_626.out; have hnb82 := NB626_0.out; have hnc82 := NB0_626.out; have hcz83_0 : w79.cell? ⟨gb626, 0, none⟩ = some (u627000) := (blk_cell BK626.out 0).trans rfl; have hcz83_1 : w79.cell? ⟨gb626, 1, none⟩ = some (u627001) := (blk_cell BK626.out 1).trans rfl; have hcz83_2 : w79.cell? ⟨gb626, 2, none⟩ = some (u627002) := (blk_cell BK626.out 2).trans rfl; have hcz83_3 : w79.cell? ⟨gb626, 3, none⟩ = some (.int .i64 t623) := (blk_cell BK626.out 3).trans rfl; have hcz83_4 : w79.cell? ⟨gb626, 4, none⟩ = some (.int .i64 t627) := (blk_cell BK626.out 4).trans rfl; have hfz83_0 := blk_frozen BK626.out 0; have hfz83_1 := blk_frozen BK626.out 1; have hfz83_2 := blk_frozen BK626.out 2; have hfz83_3 := blk_frozen BK626.out 3; have hfz83_4 := blk_frozen BK626.out 4) | ((with_reducible refine gate_builtin (b := .append) (xs := #[.tmp 63, .tmp 65]) rfl ?_); at_builtin; refine Kd.R_append k79 w.heap.size rfl (.tmp 63) (.tmp 65) 62 79 (.agg #[(.int .i64 0), (.int .i64 0)]) 16 rfl Try.underlying62 info79 rfl (by decide) (by omega) u627000 x627000_3 (⟨wrap64 (1 + t651), wrap64 (20 + t655)⟩ : S79) [.int .i64 (wrap64 (1 + t651)), .int .i64 (wrap64 (20 + t655))] (fun k_ => k_ ≠ gb654) (fun _ => False) rfl (by first | (go_simp; done) | (go_simp; rfl)) ?aP (fun _ hk => hk.elim) ?aF ?aO (Below.refl _ _) ?aS ?aL ?_; (case aP => exact k79_mkM _ _ _ (⟨wrap64 (1 + t651), wrap64 (20 + t655)⟩ : S79)); (case aF => exact (fun k_ hk => Kd.freshB (g := gb654) (o := .cells #[.int .i64 (wrap64 (1 + t651)), .int .i64 (wrap64 (20 + t655))] 79 (0, 0)) (by (with_reducible repeat (first | refine blk_drewN ?_ _ | refine blk_drew ?_ | refine blk_alloc ?_ _)); refine blk_put (cs := #[.int .i64 (wrap64 (1 + t651)), .int .i64 0]) ?_ 1 _ rfl; (with_reducible repeat (first | refine blk_drewN ?_ _ | refine blk_drew ?_ | refine blk_alloc ?_ _)); exact BK654.out) k_ hk)); (case aO => exact (by (with_reducible repeat (first | apply Kd.R_alloc | apply Kd.R_drewN | apply Kd.R_drew)); exact Kd.R_mono (Kd.R_far (p := ⟨gb654, 1, none⟩) (Kd.R_mono HO_627000.out (fun k_ hk => (⟨hk, hk.2⟩ : _ ∧ k_ ≠ gb654))) (fun _ hk => hk.2) (.int .i64 (wrap64 (20 + t655)))) (fun _ hk => hk.1.2))); (case aS => exact (keep_size (w := w) (g := g) (row := none) (by repeat (first | (with_reducible first | exact HK.out | apply KeepBut.set_ | apply keep_drewN | apply keep_drew | apply keep_alloc | refine keep_far ?_ GW613.out _ | refine keep_far ?_ GW626.out _ | refine keep_far ?_ GW654.out _) | exact HK.out)))); (case aL => have := LMc72.out; omega); intro v659 w84 ho hb hg hat; rw [← Ny658.out] at ho; have n0_ := Aside0.mk (Kd.R_over' (by (with_reducible repeat (first | apply Kd.R_alloc | apply Kd.R_drewN | apply Kd.R_drew)); exact (Kd.R_mono (Kd.R_far (p := ⟨gb654, 1, none⟩) (Kd.R_types HO_627001.out BK654.out (by decide)) (fun _ hk => hk.2) (.int .i64 (wrap64 (20 + t655)))) (fun _ h_ => h_.1))) (Kd.R_typed (by (with_reducible repeat (first | apply Kd.R_alloc | apply Kd.R_drewN | apply Kd.R_drew)); exact (Kd.R_mono (Kd.R_far (p := ⟨gb654, 1, none⟩) (Kd.R_mono HO_627000.out (fun k_ hk => (⟨hk, hk.2⟩ : _ ∧ k_ ≠ gb654))) (fun _ hk => hk.2) (.int .i64 (wrap64 (20 + t655)))) (fun _ h_ => h_.1)))) (by decide) hg); have n1_ := Aside0.mk (Kd.R_over' (by (with_reducible repeat (first | apply Kd.R_alloc | apply Kd.R_drewN | apply Kd.R_drew)); exact (Kd.R_mono (Kd.R_far (p := ⟨gb654, 1, none⟩) (Kd.R_types HO_627002.out BK654.out (by decide)) (fun _ hk => hk.2) (.int .i64 (wrap64 (20 + t655)))) (fun _ h_ => h_.1))) (Kd.R_typed (by (with_reducible repeat (first | apply Kd.R_alloc | apply Kd.R_drewN | apply Kd.R_drew)); exact (Kd.R_mono (Kd.R_far (p := ⟨gb654, 1, none⟩) (Kd.R_mono HO_627000.out (fun k_ hk => (⟨hk, hk.2⟩ : _ ∧ k_ ≠ gb654))) (fun _ hk => hk.2) (.int .i64 (wrap64 (20 + t655)))) (fun _ h_ => h_.1)))) (by decide) hg); have n2_ := Aside0.mk (blk_grown (g := gb613) (o := .cells #[.slice none 0 0, .slice none 0 0, .slice none 0 0, .int .i64 0, .int .i64 0] 64 (0, 0)) (by (with_reducible repeat (first | refine blk_drewN ?_ _ | refine blk_drew ?_ | refine blk_alloc ?_ _)); refine blk_far ?_ NB613_654.out _; (with_reducible repeat (first | refine blk_drewN ?_ _ | refine blk_drew ?_ | refine blk_alloc ?_ _)); exact BK613.out) hg (Kd.R_ne HO_627000.out BK613.out (by decide))); have n3_ := Aside0.mk (blk_grown (g := gb626) (o := .cells #[u627000, u627001, u627002, .int .i64 t623, .int .i64 t627] 64 (0, 0)) (by (with_reducible repeat (first | refine blk_drewN ?_ _ | refine blk_drew ?_ | refine blk_alloc ?_ _)); refine blk_far ?_ NB626_654.out _; (with_reducible repeat (first | refine blk_drewN ?_ _ | refine blk_drew ?_ | refine blk_alloc ?_ _)); exact BK626.out) hg (Kd.R_ne HO_627000.out BK626.out (by decide))); have n4_ := Aside0.mk (IsS168.grown (IsS168.far HI0.out NB0_654.out _) hg (IsS168.own_ne HI0.out HO_627000.out (by decide))); have n5_ := Aside0.mk (blk_grown (g := gb654) (o := .cells #[.int .i64 (wrap64 (1 + t651)), .int .i64 (wrap64 (20 + t655))] 79 (0, 0)) (by (with_reducible repeat (first | refine blk_drewN ?_ _ | refine blk_drew ?_ | refine blk_alloc ?_ _)); refine blk_put (cs := #[.int .i64 (wrap64 (1 + t651)), .int .i64 0]) ?_ 1 _ rfl; (with_reducible repeat (first | refine blk_drewN ?_ _ | refine blk_drew ?_ | refine blk_alloc ?_ _)); exact BK654.out) hg (Kd.R_away HO_627000.out (fun _ hk => hk.2))); have n6_ := Aside0.mk (below_weaken (by repeat (first | (with_reducible first | exact HB.out | apply below_alloc | apply pw_below_drewN | apply below_drew1 | refine below_set ?_ (IsS168.ge HI0.out) | refine below_set ?_ GE613.out | refine below_set ?_ GE626.out | refine below_set ?_ GE654.out) | exact HB.out)) HL.out hb); have n7_ := Aside0.mk (KeepBut.trans (by repeat (first | (with_reducible first | exact HK.out | apply KeepBut.set_ | apply keep_drewN | apply keep_drew | apply keep_alloc | refine keep_far ?_ GW613.out _ | refine keep_far ?_ GW626.out _ | refine keep_far ?_ GW654.out _) | exact HK.out)) (KeepBut.of_grown hg g) (Kd.R_base2 HO_627000.out)); have n8_ := Aside0.mk (ho); clear HO_627001; clear HO_627002; clear BK613; clear BK626; clear HI0; clear BK654; clear HB; clear HK; clear HO_627000; have HO_627001 := n0_; have HO_627002 := n1_; have BK613 := n2_; have BK626 := n3_; have HI0 := n4_; have BK654 := n5_; have HB := n6_; have HK := n7_; have HO660 := n8_; clear n0_ n1_ n2_ n3_ n4_ n5_ n6_ n7_ n8_; clear ho hb hg hat; obtain ⟨Ao85, co85, eo85⟩ := Kd.R_slice HO660.out; subst eo85; have hcz86_0 : w84.cell? ⟨gb626, 0, none⟩ = some (u627000) := (blk_cell BK626.out 0).trans rfl; have hcz86_1 : w84.cell? ⟨gb626, 1, none⟩ = some (u627001) := (blk_cell BK626.out 1).trans rfl; have hcz86_2 : w84.cell? ⟨gb626, 2, none⟩ = some (u627002) := (blk_cell BK626.out 2).trans rfl; have hcz86_3 : w84.cell? ⟨gb626, 3, none⟩ = some (.int .i64 t623) := (blk_cell BK626.out 3).trans rfl; have hcz86_4 : w84.cell? ⟨gb626, 4, none⟩ = some (.int .i64 t627) := (blk_cell BK626.out 4).trans rfl; have hfz86_0 := blk_frozen BK626.out 0; have hfz86_1 := blk_frozen BK626.out 1; have hfz86_2 := blk_frozen BK626.out 2; have hfz86_3 := blk_frozen BK626.out 3; have hfz86_4 := blk_frozen BK626.out 4))
          go_roundg k3
          case measure => have := HJ5.out; have := HK2.out; have := HK3.out; omega
          case rel => exact ⟨(wrap64 (x6_3 - 1)), (t656), (t657), (y658), (.slice Ao85 y658.length co85), (by first | rfl | (simp; done) | (simp [*]; done) | (simp [Int.tdiv_eq_ediv_of_nonneg, *]; done)), H', ⟨by have := HJ5.out; have := HK2.out; have := HK3.out; omega⟩, ⟨by (with_reducible repeat (first | apply Kd.R_alloc | apply Kd.R_drewN | apply Kd.R_drew)); exact Kd.R_mono (Kd.R_far (p := ⟨gb626, 0, none⟩) (Kd.R_types HO660.out BK626.out (by decide)) (fun _ hk => hk.2) (.slice Ao85 y658.length co85)) (fun _ hk => trivial)⟩, ⟨by (with_reducible repeat (first | apply Kd.R_alloc | apply Kd.R_drewN | apply Kd.R_drew)); exact Kd.R_mono (Kd.R_far (p := ⟨gb626, 0, none⟩) (Kd.R_types HO_627001.out BK626.out (by decide)) (fun _ hk => hk.2) (.slice Ao85 y658.length co85)) (fun _ hk => hk.1)⟩, ⟨by (with_reducible repeat (first | apply Kd.R_alloc | apply Kd.R_drewN | apply Kd.R_drew)); exact Kd.R_mono (Kd.R_far (p := ⟨gb626, 0, none⟩) (Kd.R_types HO_627002.out BK626.out (by decide)) (fun _ hk => hk.2) (.slice Ao85 y658.length co85)) (fun _ hk => hk.1)⟩, ⟨by (with_reducible repeat (first | refine blk_drewN ?_ _ | refine blk_drew ?_ | refine blk_alloc ?_ _)); refine blk_far ?_ NB613_626.out _; (with_reducible repeat (first | refine blk_drewN ?_ _ | refine blk_drew ?_ | refine blk_alloc ?_ _)); exact BK613.out⟩, ⟨by (with_reducible repeat (first | refine blk_drewN ?_ _ | refine blk_drew ?_ | refine blk_alloc ?_ _)); refine blk_put (cs := #[u627000, u627001, u627002, .int .i64 t623, .int .i64 t627]) ?_ 0 _ rfl; (with_reducible repeat (first | refine blk_drewN ?_ _ | refine blk_drew ?_ | refine blk_alloc ?_ _)); exact BK626.out⟩, ⟨by repeat (first | (with_reducible first | exact HI0.out | apply IsS168.alloc | apply IsS168.drewN | apply IsS168.drew | refine IsS168.far ?_ NB0_613.out _ | refine IsS168.far ?_ NB0_626.out _ | refine IsS168.far ?_ NB0_654.out _) | exact HI0.out)⟩, ⟨by repeat (first | (with_reducible first | exact HK.out | apply KeepBut.set_ | apply keep_drewN | apply keep_drew | apply keep_alloc | refine keep_far ?_ GW613.out _ | refine keep_far ?_ GW626.out _ | refine keep_far ?_ GW654.out _) | exact HK.out)⟩, ⟨by repeat (first | (with_reducible first | exact HB.out | apply below_alloc | apply pw_below_drewN | apply below_drew1 | refine below_set ?_ (IsS168.ge HI0.out) | refine below_set ?_ GE613.out | refine below_set ?_ GE626.out | refine below_set ?_ GE654.out) | exact HB.out)⟩⟩
         ·rw [if_neg c72] at H
          exact absurd H (by simp)
        ·rw [if_neg c69] at H
         have c69b0 : decide (0 < x6_3) = false := decide_eq_false c69
         clear c69
         replace H := Option.bind_eq_some_iff.mp H
         obtain ⟨⟨t661, t662, t663⟩, A870, H⟩ := H
         replace H : (if t661 = true then (if 0 < (x627000_3.length : Int) then (spec_l08DrawOk.l2 k3 s0_0 t662 t663 (x627000_3.set (0 : Int).toNat (⟨100, 1000000⟩ : S79)) x627001_2 x627002_2 t623 t627) else (none)) else (some (x627000_3, x627001_2, x627002_2, t623, t627, t662, t663))) = some (r1, r2, r3, r4, r5, r6, r7) := H
         have A87 := Aside0.mk A870
         clear A870
         by_cases c88 : t661 = true
         ·subst c88
          have H1 : (if 0 < (x627000_3.length : Int) then (spec_l08DrawOk.l2 k3 s0_0 t662 t663 (x627000_3.set (0 : Int).toNat (⟨100, 1000000⟩ : S79)) x627001_2 x627002_2 t623 t627) else (none)) = some (r1, r2, r3, r4, r5, r6, r7) := by rw [if_pos rfl] at H; exact H
          clear H
          have H := H1
          clear H1
          by_cases c89 : 0 < (x627000_3.length : Int)
          ·rw [if_pos c89] at H
           have c89b0 : decide (0 < (x627000_3.length : Int)) = true := decide_eq_true c89
           have c89b1 : decide (0 < x627000_3.length) = true := decide_eq_true (by omega)
           clear c89
           obtain ⟨y664, hy664⟩ : ∃ y_ : List (S79), y_ = (x627000_3.set (0 : Int).toNat (⟨100, 1000000⟩ : S79)) := ⟨_, rfl⟩
           replace H : (spec_l08DrawOk.l2 k3 s0_0 t662 t663 y664 x627001_2 x627002_2 t623 t627) = some (r1, r2, r3, r4, r5, r6, r7) := by first | (rw [hy664]; with_reducible exact H) | (have H2_ := (Option.bind_some _ _).symm.trans H; rw [hy664]; with_reducible exact H2_) | (have H2_ := (Option.bind_some _ _).symm.trans H; with_reducible exact H2_) | with_reducible exact H | (rw [hy664]; exact H) | exact H
           have Ny664 := Aside0.mk hy664
           clear hy664
           have H' := Aside0.mk H
           clear H
           go_wp2_with (first | ((with_reducible refine gate_callee (f := 103) rfl ?_); refine goesL_ (some 69) rfl rfl Try.func103 (by kernel_rfl) rfl #[.pointer (some ⟨g, 0, none⟩), .int .i64 16] rfl (by (try simp only [List.map_toArray, List.map_cons, List.map_nil]); first | done | rfl | (simp only [List.length_drop, List.length_take]; rfl)) ?_; (with_reducible refine (spec_l00Src_one.calls g s0_0 x1001_3 x1002_3 16 true t662 t663 w0 _ ?side1 ?side2 A87.out).mono ?_); (case side1 => repeat (first | (with_reducible first | exact HI0.out | apply IsS168.alloc | apply IsS168.drewN | apply IsS168.drew | refine IsS168.far ?_ NB0_613.out _ | refine IsS168.far ?_ NB0_626.out _) | exact HI0.out)); (case side2 => repeat (first | (with_reducible first | exact HB.out | apply below_alloc | apply pw_below_drewN | apply below_drew1 | refine below_set ?_ (IsS168.ge HI0.out) | refine below_set ?_ GE613.out | refine below_set ?_ GE626.out) | exact HB.out)); rintro e w91 ⟨rfl, hi, hb, hk⟩; refine ⟨_, rfl, ?_⟩; have n0_ := Aside0.mk (Kd.R_mono (Kd.R_keep (IsS168.apart (show IsS168 w0 _ g s0_0 x1001_3 x1002_3 from by repeat (first | (with_reducible first | exact HI0.out | apply IsS168.alloc | apply IsS168.drewN | apply IsS168.drew | refine IsS168.far ?_ NB0_613.out _ | refine IsS168.far ?_ NB0_626.out _) | exact HI0.out)) (by (with_reducible repeat (first | apply Kd.R_alloc | apply Kd.R_drewN | apply Kd.R_drew)); exact HO_627000.out) (by decide)) hk (fun _ h => h.2)) (fun _ h => h.1)); have n1_ := Aside0.mk (Kd.R_mono (Kd.R_keep (IsS168.apart (show IsS168 w0 _ g s0_0 x1001_3 x1002_3 from by repeat (first | (with_reducible first | exact HI0.out | apply IsS168.alloc | apply IsS168.drewN | apply IsS168.drew | refine IsS168.far ?_ NB0_613.out _ | refine IsS168.far ?_ NB0_626.out _) | exact HI0.out)) (by (with_reducible repeat (first | apply Kd.R_alloc | apply Kd.R_drewN | apply Kd.R_drew)); exact HO_627001.out) (by decide)) hk (fun _ h => h.2)) (fun _ h => h.1)); have n2_ := Aside0.mk (Kd.R_mono (Kd.R_keep (IsS168.apart (show IsS168 w0 _ g s0_0 x1001_3 x1002_3 from by repeat (first | (with_reducible first | exact HI0.out | apply IsS168.alloc | apply IsS168.drewN | apply IsS168.drew | refine IsS168.far ?_ NB0_613.out _ | refine IsS168.far ?_ NB0_626.out _) | exact HI0.out)) (by (with_reducible repeat (first | apply Kd.R_alloc | apply Kd.R_drewN | apply Kd.R_drew)); exact HO_627002.out) (by decide)) hk (fun _ h => h.2)) (fun _ h => h.1)); have n3_ := Aside0.mk (KeepBut.blk hk (g' := gb613) (o := .cells #[.slice none 0 0, .slice none 0 0, .slice none 0 0, .int .i64 0, .int .i64 0] 64 (0, 0)) (by (with_reducible repeat (first | refine blk_drewN ?_ _ | refine blk_drew ?_ | refine blk_alloc ?_ _)); exact BK613.out) NB613_0.out (by simp)); have n4_ := Aside0.mk (KeepBut.blk hk (g' := gb626) (o := .cells #[u627000, u627001, u627002, .int .i64 t623, .int .i64 t627] 64 (0, 0)) (by (with_reducible repeat (first | refine blk_drewN ?_ _ | refine blk_drew ?_ | refine blk_alloc ?_ _)); exact BK626.out) NB626_0.out (by simp)); have n5_ := Aside0.mk (KeepBut.trans (by repeat (first | (with_reducible first | exact HK.out | apply KeepBut.set_ | apply keep_drewN | apply keep_drew | apply keep_alloc | refine keep_far ?_ GW613.out _ | refine keep_far ?_ GW626.out _) | exact HK.out)) hk (.inl rfl)); have n6_ := Aside0.mk (hb); have n7_ := Aside0.mk (hi); clear HO_627000; clear HO_627001; clear HO_627002; clear BK613; clear BK626; clear HK; clear HB; clear HI0; have HO_627000 := n0_; have HO_627001 := n1_; have HO_627002 := n2_; have BK613 := n3_; have BK626 := n4_; have HK := n5_; have HB := n6_; have HI0 := n7_; clear n0_ n1_ n2_ n3_ n4_ n5_ n6_ n7_; (try clear hb); (try clear hb2); (try clear hk); (try clear hi); have hnb92 := NB626_613.out; have hnc92 := NB613_626.out; have hnb93 := NB626_0.out; have hnc93 := NB0_626.out; have hcz94_0 : w91.cell? ⟨gb626, 0, none⟩ = some (u627000) := (blk_cell BK626.out 0).trans rfl; have hcz94_1 : w91.cell? ⟨gb626, 1, none⟩ = some (u627001) := (blk_cell BK626.out 1).trans rfl; have hcz94_2 : w91.cell? ⟨gb626, 2, none⟩ = some (u627002) := (blk_cell BK626.out 2).trans rfl; have hcz94_3 : w91.cell? ⟨gb626, 3, none⟩ = some (.int .i64 t623) := (blk_cell BK626.out 3).trans rfl; have hcz94_4 : w91.cell? ⟨gb626, 4, none⟩ = some (.int .i64 t627) := (blk_cell BK626.out 4).trans rfl; have hfz94_0 := blk_frozen BK626.out 0; have hfz94_1 := blk_frozen BK626.out 1; have hfz94_2 := blk_frozen BK626.out 2; have hfz94_3 := blk_frozen BK626.out 3; have hfz94_4 := blk_frozen BK626.out 4; have p90 : 0 ≤ (0 : Int) := (by omega); have q90 : (0 : Int) < ((x627000_3.length : Int) : Int) := of_decide_eq_true (by first | (with_reducible assumption) | assumption); have qi90 : (0 < x627000_3.length) = True := eq_true (by omega); obtain ⟨go90, co90, eo90, gb90, gl90, cl90, HG90⟩ := Kd.R_form HO_627000.out (by omega); (first | cases eo90 | (injection eo90 with ea_ en_ ec_; (first | subst ea_ | (injection ea_ with ea_; subst ea_)); subst ec_; clear en_)); have GB90 := Aside0.mk gb90; have GG90 := Aside0.mk HG90; clear gb90 gl90 HG90; obtain ⟨ce90, hcl90, hM90, hcc90, hfr90⟩ := Kd.R_elem HO_627000.out z79 (0 : Int) p90 q90; obtain rfl := k79_openM hM90; have hx90_0 : w91.cell? ⟨go90, (0 : Int).toNat * 2, none⟩ = some (.int .i64 ((rd_T79 x627000_3 0).f0)) := hcc90 0 _ rfl; have hx90_1 : w91.cell? ⟨go90, (0 : Int).toNat * 2 + 1, none⟩ = some (.int .i64 ((rd_T79 x627000_3 0).f1)) := hcc90 1 _ rfl; have hf90_0 : w91.frozen? ⟨go90, (0 : Int).toNat * 2, none⟩ = false := hfr90 0; have hf90_1 : w91.frozen? ⟨go90, (0 : Int).toNat * 2 + 1, none⟩ = false := hfr90 1; clear hcl90 hcc90 hfr90 hM90; (try rw [show ((0 : Int)).toNat = 0 from rfl] at hx90_0); (try simp only [Nat.reduceMul, Nat.zero_mul, Nat.zero_add, Nat.reduceAdd] at hx90_0); (try rw [show ((0 : Int)).toNat = 0 from rfl] at hf90_0); (try simp only [Nat.reduceMul, Nat.zero_mul, Nat.zero_add, Nat.reduceAdd] at hf90_0); (try rw [show ((0 : Int)).toNat = 0 from rfl] at hx90_1); (try simp only [Nat.reduceMul, Nat.zero_mul, Nat.zero_add, Nat.reduceAdd] at hx90_1); (try rw [show ((0 : Int)).toNat = 0 from rfl] at hf90_1); (try simp only [Nat.reduceMul, Nat.zero_mul, Nat.zero_add, Nat.reduceAdd] at hf90_1); replace p90 := eq_true p90; replace q90 := eq_true q90; have HX95 := Aside0.mk (show Kd.R k79 79 w91 w.heap.size (fun _ => True) (.slice (some ⟨go90, 0, none⟩) x627000_3.length co90) x627000_3 from (by (with_reducible repeat (first | apply Kd.R_alloc | apply Kd.R_drewN | apply Kd.R_drew)); exact HO_627000.out)); obtain ⟨ce95, hcl95, hM95, hcc95, hfr95⟩ := Kd.R_elem HX95.out z79 (0 : Int) (by omega) (by have h_ : (0 : Int) < ((x627000_3.length : Int) : Int) := of_decide_eq_true (by first | (with_reducible assumption) | assumption); first | exact h_ | (have e_ := (Kd.R_reads' HO_627000.out).1; omega) | simpa using h_); obtain rfl := k79_openM hM95; have HP95 := Kd.R_seg HX95.out (0 : Int) (by omega) (by have h_ : (0 : Int) < ((x627000_3.length : Int) : Int) := of_decide_eq_true (by first | (with_reducible assumption) | assumption); first | exact h_ | (have e_ := (Kd.R_reads' HO_627000.out).1; omega) | simpa using h_) (seg := [.int .i64 100, .int .i64 1000000]) (j := 0) hcl95 hcc95 (show 2 ≤ 2 from by decide) (x' := (⟨100, 1000000⟩ : S79)) (k79_mkM _ _ _ (⟨100, 1000000⟩ : S79) ) (fun _ hk => hk); have hx95_0 := hcc95 0 _ rfl; (try simp only [show (k79).sz = 2 from rfl, Nat.mul_one, Nat.add_zero] at hx95_0); (try rw [show ((0 : Int)).toNat = 0 from rfl] at hx95_0); (try simp only [Nat.reduceMul, Nat.zero_mul, Nat.zero_add, Nat.reduceAdd] at hx95_0); have hf95_0 := hfr95 0; (try simp only [show (k79).sz = 2 from rfl, Nat.mul_one, Nat.add_zero] at hf95_0); (try rw [show ((0 : Int)).toNat = 0 from rfl] at hf95_0); (try simp only [Nat.reduceMul, Nat.zero_mul, Nat.zero_add, Nat.reduceAdd] at hf95_0); have hx95_1 := hcc95 1 _ rfl; (try simp only [show (k79).sz = 2 from rfl, Nat.mul_one, Nat.add_zero] at hx95_1); (try rw [show ((0 : Int)).toNat = 0 from rfl] at hx95_1); (try simp only [Nat.reduceMul, Nat.zero_mul, Nat.zero_add, Nat.reduceAdd] at hx95_1); have hf95_1 := hfr95 1; (try simp only [show (k79).sz = 2 from rfl, Nat.mul_one, Nat.add_zero] at hf95_1); (try rw [show ((0 : Int)).toNat = 0 from rfl] at hf95_1); (try simp only [Nat.reduceMul, Nat.zero_mul, Nat.zero_add, Nat.reduceAdd] at hf95_1); clear hcl95 hcc95 hfr95 hM95) | ((with_reducible refine gate_store (t := 79) (p := 73) rfl ?_); refine store_event (t := 79) (p := 73) (v := ?vo_w96) (w1 := ((w91.setCell ⟨go90, 0, none⟩ (.int .i64 100)).setCell ⟨go90, 1, none⟩ (.int .i64 1000000))) ?hg ?ho ?hn ?hr ?_; (case ho => rfl); (case hg => rfl); (case hn => rfl); (case hr => first | (go_simp; done) | (go_simp; rfl)); intro w96 hw; have hg : w91.grownBy w96 (some go90) := (by rw [hw]; exact HP95.2); have hp_ : Kd.R k79 79 w96 w.heap.size (fun _ => True) (.slice (some ⟨go90, 0, none⟩) x627000_3.length co90) y664 := (by rw [hw, Ny664.out]; exact HP95.1); clear HP95; have n0_ := Aside0.mk (hp_); have n1_ := Aside0.mk (Kd.R_over' (v := (.slice (some ⟨go90, 0, none⟩) x627000_3.length co90)) (by (with_reducible repeat (first | apply Kd.R_alloc | apply Kd.R_drewN | apply Kd.R_drew)); exact HO_627001.out) (Kd.R_typed HO_627000.out) (by decide) hg); have n2_ := Aside0.mk (Kd.R_over' (v := (.slice (some ⟨go90, 0, none⟩) x627000_3.length co90)) (by (with_reducible repeat (first | apply Kd.R_alloc | apply Kd.R_drewN | apply Kd.R_drew)); exact HO_627002.out) (Kd.R_typed HO_627000.out) (by decide) hg); have n3_ := Aside0.mk (blk_grown (g := gb613) (o := .cells #[.slice none 0 0, .slice none 0 0, .slice none 0 0, .int .i64 0, .int .i64 0] 64 (0, 0)) (by (with_reducible repeat (first | refine blk_drewN ?_ _ | refine blk_drew ?_ | refine blk_alloc ?_ _)); exact BK613.out) hg (Kd.R_ne HO_627000.out BK613.out (by decide))); have n4_ := Aside0.mk (blk_grown (g := gb626) (o := .cells #[.slice (some ⟨go90, 0, none⟩) x627000_3.length co90, u627001, u627002, .int .i64 t623, .int .i64 t627] 64 (0, 0)) (by (with_reducible repeat (first | refine blk_drewN ?_ _ | refine blk_drew ?_ | refine blk_alloc ?_ _)); exact BK626.out) hg (Kd.R_ne HO_627000.out BK626.out (by decide))); have n5_ := Aside0.mk (IsS168.grown (by repeat (first | (with_reducible first | exact HI0.out | apply IsS168.alloc | apply IsS168.drewN | apply IsS168.drew | refine IsS168.far ?_ NB0_613.out _ | refine IsS168.far ?_ NB0_626.out _) | exact HI0.out)) hg (IsS168.own_ne HI0.out HO_627000.out (by decide))); have n6_ := Aside0.mk ((by rw [hw]; exact below_set (below_set (HB.out) (Nat.le_trans HL.out GB90.out)) (Nat.le_trans HL.out GB90.out) : Below w0.heap.size w0 w96)); have n7_ := Aside0.mk (KeepBut.trans (by repeat (first | (with_reducible first | exact HK.out | apply KeepBut.set_ | apply keep_drewN | apply keep_drew | apply keep_alloc | refine keep_far ?_ GW613.out _ | refine keep_far ?_ GW626.out _) | exact HK.out)) (KeepBut.of_grown hg g) (Kd.R_base2 HO_627000.out)); clear HO_627000; clear HO_627001; clear HO_627002; clear BK613; clear BK626; clear HI0; clear HB; clear HK; have HO_627000 := n0_; have HO_627001 := n1_; have HO_627002 := n2_; have BK613 := n3_; have BK626 := n4_; have HI0 := n5_; have HB := n6_; have HK := n7_; clear n0_ n1_ n2_ n3_ n4_ n5_ n6_ n7_; clear hg hw hp_))
           go_loopg [] k3 (fun kq w' => ∃ (x627000_4 : List (S79)) (u627000 : Value), Aside0 (spec_l08DrawOk.l2 kq s0_0 t662 t663 x627000_4 x627001_2 x627002_2 t623 t627 = some (r1, r2, r3, r4, r5, r6, r7)) ∧ Aside0 (kq ≤ k3) ∧ Aside0 (Kd.R k79 79 w' w.heap.size (fun _ => True) u627000 x627000_4) ∧ Aside0 (Kd.R (Kd.int .i64) 2 w' w.heap.size (fun k_ => some k_ ≠ (u627002 : Value).ownBlock) u627001 x627001_2) ∧ Aside0 (Kd.R (Kd.int .i64) 2 w' w.heap.size (fun k_ => some k_ ≠ (u627001 : Value).ownBlock) u627002 x627002_2) ∧ Aside0 (w'.heap[gb613]? = some (.cells #[(.slice none 0 0), (.slice none 0 0), (.slice none 0 0), .int .i64 0, .int .i64 0] 64 (0, 0))) ∧ Aside0 (w'.heap[gb626]? = some (.cells #[u627000, u627001, u627002, .int .i64 t623, .int .i64 t627] 64 (0, 0))) ∧ Aside0 (IsS168 w0 w' g s0_0 t662 t663) ∧ Aside0 (KeepBut w w' g none) ∧ Aside0 (Below w0.heap.size w0 w'))
           case atStart => exact ⟨(y664), (.slice (some ⟨go90, 0, none⟩) x627000_3.length co90), H', ⟨Nat.le_refl _⟩, ⟨by (with_reducible repeat (first | apply Kd.R_alloc | apply Kd.R_drewN | apply Kd.R_drew)); exact HO_627000.out⟩, ⟨by (with_reducible repeat (first | apply Kd.R_alloc | apply Kd.R_drewN | apply Kd.R_drew)); exact HO_627001.out⟩, ⟨by (with_reducible repeat (first | apply Kd.R_alloc | apply Kd.R_drewN | apply Kd.R_drew)); exact HO_627002.out⟩, ⟨by (with_reducible repeat (first | refine blk_drewN ?_ _ | refine blk_drew ?_ | refine blk_alloc ?_ _)); exact BK613.out⟩, ⟨by (with_reducible repeat (first | refine blk_drewN ?_ _ | refine blk_drew ?_ | refine blk_alloc ?_ _)); exact BK626.out⟩, ⟨by repeat (first | (with_reducible first | exact HI0.out | apply IsS168.alloc | apply IsS168.drewN | apply IsS168.drew | refine IsS168.far ?_ NB0_613.out _ | refine IsS168.far ?_ NB0_626.out _) | exact HI0.out)⟩, ⟨by repeat (first | (with_reducible first | exact HK.out | apply KeepBut.set_ | apply keep_drewN | apply keep_drew | apply keep_alloc | refine keep_far ?_ GW613.out _ | refine keep_far ?_ GW626.out _) | exact HK.out)⟩, ⟨by repeat (first | (with_reducible first | exact HB.out | apply below_alloc | apply pw_below_drewN | apply below_drew1 | refine below_set ?_ (IsS168.ge HI0.out) | refine below_set ?_ GE613.out | refine below_set ?_ GE626.out) | exact HB.out)⟩⟩
           case round =>
            clear H'
            try clear c1
            try clear c2
            try clear p2
            try clear c3
            try clear c4
            try clear c5
            try clear c6
            try clear p6
            try clear c7
            try clear c8
            try clear c9
            try clear p9
            try clear q9
            try clear hx9
            try clear qi9
            try clear hf9
            try clear c10
            try clear c27
            try clear c27b0
            try clear c29
            try clear c30
            try clear c30b0
            try clear c30b1
            try clear c32
            try clear c33
            try clear c39
            try clear c40
            try clear c53
            try clear c54
            try clear c63
            try clear c64
            try clear p64
            try clear c69
            try clear c69b0
            try clear c72
            try clear c74
            try clear c75
            try clear c76
            try clear c77
            try clear c81
            try clear c82
            try clear c88
            try clear c89
            try clear c89b0
            try clear c89b1
            try clear c90
            try clear p90
            try clear q90
            try clear hx90
            try clear qi90
            try clear hf90
            try clear c92
            try clear c93
            try clear c95
            try clear hx95
            try clear hf95
            try clear hcz41_0
            try clear hcz41_1
            try clear hcz41_2
            try clear hcz41_3
            try clear hcz41_4
            try clear hcz44_0
            try clear hcz44_1
            try clear hcz44_2
            try clear hcz44_3
            try clear hcz44_4
            try clear hcz47_0
            try clear hcz47_1
            try clear hcz47_2
            try clear hcz47_3
            try clear hcz47_4
            try clear hcz55_0
            try clear hcz55_1
            try clear hcz55_2
            try clear hcz55_3
            try clear hcz55_4
            try clear hcz65_0
            try clear hcz65_1
            try clear hcz65_2
            try clear hcz65_3
            try clear hcz65_4
            try clear hcz78_0
            try clear hcz78_1
            try clear hcz80_0
            try clear hcz80_1
            try clear hcz83_0
            try clear hcz83_1
            try clear hcz83_2
            try clear hcz83_3
            try clear hcz83_4
            try clear hcz86_0
            try clear hcz86_1
            try clear hcz86_2
            try clear hcz86_3
            try clear hcz86_4
            try clear hcz94_0
            try clear hcz94_1
            try clear hcz94_2
            try clear hcz94_3
            try clear hcz94_4
            try clear hfz41_0
            try clear hfz41_1
            try clear hfz41_2
            try clear hfz41_3
            try clear hfz41_4
            try clear hfz44_0
            try clear hfz44_1
            try clear hfz44_2
            try clear hfz44_3
            try clear hfz44_4
            try clear hfz47_0
            try clear hfz47_1
            try clear hfz47_2
            try clear hfz47_3
            try clear hfz47_4
            try clear hfz55_0
            try clear hfz55_1
            try clear hfz55_2
            try clear hfz55_3
            try clear hfz55_4
            try clear hfz65_0
            try clear hfz65_1
            try clear hfz65_2
            try clear hfz65_3
            try clear hfz65_4
            try clear hfz78_0
            try clear hfz78_1
            try clear hfz80_0
            try clear hfz80_1
            try clear hfz83_0
            try clear hfz83_1
            try clear hfz83_2
            try clear hfz83_3
            try clear hfz83_4
            try clear hfz86_0
            try clear hfz86_1
            try clear hfz86_2
            try clear hfz86_3
            try clear hfz86_4
            try clear hfz94_0
            try clear hfz94_1
            try clear hfz94_2
            try clear hfz94_3
            try clear hfz94_4
            try clear hx90_0
            try clear hx90_1
            try clear hx95_0
            try clear hx95_1
            try clear p2
            try clear p6
            try clear p64
            try clear p90
            try clear q90
            obtain ⟨x627000_4, u627000, HA, HK4, HO_627000, HO_627001, HO_627002, BK613, BK626, HI0, HK, HB⟩ := hrel
            cases gk with
            | zero => exact absurd HA.out (by simp [spec_l08DrawOk.l2])
            | succ k4 =>
             have H := HA.out
             clear HA
             simp only [spec_l08DrawOk.l2] at H
             by_cases c97 : (x627000_4.length : Int) < 5
             ·rw [if_pos c97] at H
              have c97b0 : decide ((x627000_4.length : Int) < 5) = true := decide_eq_true c97
              have c97b1 : decide (x627000_4.length < 5) = true := decide_eq_true (by omega)
              clear c97
              by_cases c98 : x627000_4.length < 8796093022208
              ·rw [if_pos c98] at H
               have LMc98 := Aside0.mk c98
               clear c98
               obtain ⟨y665, hy665⟩ : ∃ y_ : List (S79), y_ = (x627000_4 ++ [(⟨1, 30⟩ : S79)]) := ⟨_, rfl⟩
               replace H : (spec_l08DrawOk.l2 k4 s0_0 t662 t663 y665 x627001_2 x627002_2 t623 t627) = some (r1, r2, r3, r4, r5, r6, r7) := by first | (rw [hy665]; with_reducible exact H) | (have H2_ := (Option.bind_some _ _).symm.trans H; rw [hy665]; with_reducible exact H2_) | (have H2_ := (Option.bind_some _ _).symm.trans H; with_reducible exact H2_) | with_reducible exact H | (rw [hy665]; exact H) | exact H
               have Ny665 := Aside0.mk hy665
               clear hy665
               have H' := Aside0.mk H
               clear H
               have hnb99 := NB626_613.out
               have hnc99 := NB613_626.out
               have hnb100 := NB626_0.out
               have hnc100 := NB0_626.out
               have hcz101_0 : wr.cell? ⟨gb626, 0, none⟩ = some (u627000) := (blk_cell BK626.out 0).trans rfl
               have hcz101_1 : wr.cell? ⟨gb626, 1, none⟩ = some (u627001) := (blk_cell BK626.out 1).trans rfl
               have hcz101_2 : wr.cell? ⟨gb626, 2, none⟩ = some (u627002) := (blk_cell BK626.out 2).trans rfl
               have hcz101_3 : wr.cell? ⟨gb626, 3, none⟩ = some (.int .i64 t623) := (blk_cell BK626.out 3).trans rfl
               have hcz101_4 : wr.cell? ⟨gb626, 4, none⟩ = some (.int .i64 t627) := (blk_cell BK626.out 4).trans rfl
               have hfz101_0 := blk_frozen BK626.out 0
               have hfz101_1 := blk_frozen BK626.out 1
               have hfz101_2 := blk_frozen BK626.out 2
               have hfz101_3 := blk_frozen BK626.out 3
               have hfz101_4 := blk_frozen BK626.out 4
               obtain ⟨Ao102, co102, eo102⟩ := Kd.R_slice HO_627000.out
               subst eo102
               go_wp2_with (first | ((with_reducible refine gate_builtin (b := .append) (xs := #[.tmp 79, .tmp 81]) rfl ?_); at_builtin; refine Kd.R_append k79 w.heap.size rfl (.tmp 79) (.tmp 81) 62 79 (.agg #[(.int .i64 0), (.int .i64 0)]) 16 rfl Try.underlying62 info79 rfl (by decide) (by omega) (.slice Ao102 x627000_4.length co102) x627000_4 (⟨1, 30⟩ : S79) [.int .i64 1, .int .i64 30] (fun _ => True) (fun _ => False) rfl rfl ?aP (fun _ hk => hk.elim) ?aF ?aO (Below.refl _ _) ?aS ?aL ?_; (case aP => exact k79_mkM _ _ _ (⟨1, 30⟩ : S79)); (case aF => exact (fun _ _ => trivial)); (case aO => exact (by (with_reducible repeat (first | apply Kd.R_alloc | apply Kd.R_drewN | apply Kd.R_drew)); exact HO_627000.out)); (case aS => exact (keep_size (w := w) (g := g) (row := none) (by repeat (first | (with_reducible first | exact HK.out | apply KeepBut.set_ | apply keep_drewN | apply keep_drew | apply keep_alloc | refine keep_far ?_ GW613.out _ | refine keep_far ?_ GW626.out _) | exact HK.out)))); (case aL => have := LMc98.out; omega); intro v666 w103 ho hb hg hat; rw [← Ny665.out] at ho; have n0_ := Aside0.mk (Kd.R_over' (by (with_reducible repeat (first | apply Kd.R_alloc | apply Kd.R_drewN | apply Kd.R_drew)); exact HO_627001.out) (Kd.R_typed (by (with_reducible repeat (first | apply Kd.R_alloc | apply Kd.R_drewN | apply Kd.R_drew)); exact HO_627000.out)) (by decide) hg); have n1_ := Aside0.mk (Kd.R_over' (by (with_reducible repeat (first | apply Kd.R_alloc | apply Kd.R_drewN | apply Kd.R_drew)); exact HO_627002.out) (Kd.R_typed (by (with_reducible repeat (first | apply Kd.R_alloc | apply Kd.R_drewN | apply Kd.R_drew)); exact HO_627000.out)) (by decide) hg); have n2_ := Aside0.mk (blk_grown (g := gb613) (o := .cells #[.slice none 0 0, .slice none 0 0, .slice none 0 0, .int .i64 0, .int .i64 0] 64 (0, 0)) (by (with_reducible repeat (first | refine blk_drewN ?_ _ | refine blk_drew ?_ | refine blk_alloc ?_ _)); exact BK613.out) hg (Kd.R_ne HO_627000.out BK613.out (by decide))); have n3_ := Aside0.mk (blk_grown (g := gb626) (o := .cells #[.slice Ao102 x627000_4.length co102, u627001, u627002, .int .i64 t623, .int .i64 t627] 64 (0, 0)) (by (with_reducible repeat (first | refine blk_drewN ?_ _ | refine blk_drew ?_ | refine blk_alloc ?_ _)); exact BK626.out) hg (Kd.R_ne HO_627000.out BK626.out (by decide))); have n4_ := Aside0.mk (IsS168.grown (by repeat (first | (with_reducible first | exact HI0.out | apply IsS168.alloc | apply IsS168.drewN | apply IsS168.drew | refine IsS168.far ?_ NB0_613.out _ | refine IsS168.far ?_ NB0_626.out _) | exact HI0.out)) hg (IsS168.own_ne HI0.out HO_627000.out (by decide))); have n5_ := Aside0.mk (below_weaken (by repeat (first | (with_reducible first | exact HB.out | apply below_alloc | apply pw_below_drewN | apply below_drew1 | refine below_set ?_ (IsS168.ge HI0.out) | refine below_set ?_ GE613.out | refine below_set ?_ GE626.out) | exact HB.out)) HL.out hb); have n6_ := Aside0.mk (KeepBut.trans (by repeat (first | (with_reducible first | exact HK.out | apply KeepBut.set_ | apply keep_drewN | apply keep_drew | apply keep_alloc | refine keep_far ?_ GW613.out _ | refine keep_far ?_ GW626.out _) | exact HK.out)) (KeepBut.of_grown hg g) (Kd.R_base2 HO_627000.out)); have n7_ := Aside0.mk (ho); clear HO_627001; clear HO_627002; clear BK613; clear BK626; clear HI0; clear HB; clear HK; clear HO_627000; have HO_627001 := n0_; have HO_627002 := n1_; have BK613 := n2_; have BK626 := n3_; have HI0 := n4_; have HB := n5_; have HK := n6_; have HO667 := n7_; clear n0_ n1_ n2_ n3_ n4_ n5_ n6_ n7_; clear ho hb hg hat; obtain ⟨Ao104, co104, eo104⟩ := Kd.R_slice HO667.out; subst eo104; have hcz105_0 : w103.cell? ⟨gb626, 0, none⟩ = some (.slice Ao102 x627000_4.length co102) := (blk_cell BK626.out 0).trans rfl; have hcz105_1 : w103.cell? ⟨gb626, 1, none⟩ = some (u627001) := (blk_cell BK626.out 1).trans rfl; have hcz105_2 : w103.cell? ⟨gb626, 2, none⟩ = some (u627002) := (blk_cell BK626.out 2).trans rfl; have hcz105_3 : w103.cell? ⟨gb626, 3, none⟩ = some (.int .i64 t623) := (blk_cell BK626.out 3).trans rfl; have hcz105_4 : w103.cell? ⟨gb626, 4, none⟩ = some (.int .i64 t627) := (blk_cell BK626.out 4).trans rfl; have hfz105_0 := blk_frozen BK626.out 0; have hfz105_1 := blk_frozen BK626.out 1; have hfz105_2 := blk_frozen BK626.out 2; have hfz105_3 := blk_frozen BK626.out 3; have hfz105_4 := blk_frozen BK626.out 4))
               go_roundg k4
               case measure => have := HJ5.out; have := HK2.out; have := HK3.out; have := HK4.out; omega
               case rel => exact ⟨(y665), (.slice Ao104 y665.length co104), H', ⟨by have := HJ5.out; have := HK2.out; have := HK3.out; have := HK4.out; omega⟩, ⟨by (with_reducible repeat (first | apply Kd.R_alloc | apply Kd.R_drewN | apply Kd.R_drew)); exact Kd.R_mono (Kd.R_far (p := ⟨gb626, 0, none⟩) (Kd.R_types HO667.out BK626.out (by decide)) (fun _ hk => hk.2) (.slice Ao104 y665.length co104)) (fun _ hk => trivial)⟩, ⟨by (with_reducible repeat (first | apply Kd.R_alloc | apply Kd.R_drewN | apply Kd.R_drew)); exact Kd.R_mono (Kd.R_far (p := ⟨gb626, 0, none⟩) (Kd.R_types HO_627001.out BK626.out (by decide)) (fun _ hk => hk.2) (.slice Ao104 y665.length co104)) (fun _ hk => hk.1)⟩, ⟨by (with_reducible repeat (first | apply Kd.R_alloc | apply Kd.R_drewN | apply Kd.R_drew)); exact Kd.R_mono (Kd.R_far (p := ⟨gb626, 0, none⟩) (Kd.R_types HO_627002.out BK626.out (by decide)) (fun _ hk => hk.2) (.slice Ao104 y665.length co104)) (fun _ hk => hk.1)⟩, ⟨by (with_reducible repeat (first | refine blk_drewN ?_ _ | refine blk_drew ?_ | refine blk_alloc ?_ _)); refine blk_far ?_ NB613_626.out _; (with_reducible repeat (first | refine blk_drewN ?_ _ | refine blk_drew ?_ | refine blk_alloc ?_ _)); exact BK613.out⟩, ⟨by (with_reducible repeat (first | refine blk_drewN ?_ _ | refine blk_drew ?_ | refine blk_alloc ?_ _)); refine blk_put (cs := #[.slice Ao102 x627000_4.length co102, u627001, u627002, .int .i64 t623, .int .i64 t627]) ?_ 0 _ rfl; (with_reducible repeat (first | refine blk_drewN ?_ _ | refine blk_drew ?_ | refine blk_alloc ?_ _)); exact BK626.out⟩, ⟨by repeat (first | (with_reducible first | exact HI0.out | apply IsS168.alloc | apply IsS168.drewN | apply IsS168.drew | refine IsS168.far ?_ NB0_613.out _ | refine IsS168.far ?_ NB0_626.out _) | exact HI0.out)⟩, ⟨by repeat (first | (with_reducible first | exact HK.out | apply KeepBut.set_ | apply keep_drewN | apply keep_drew | apply keep_alloc | refine keep_far ?_ GW613.out _ | refine keep_far ?_ GW626.out _) | exact HK.out)⟩, ⟨by repeat (first | (with_reducible first | exact HB.out | apply below_alloc | apply pw_below_drewN | apply below_drew1 | refine below_set ?_ (IsS168.ge HI0.out) | refine below_set ?_ GE613.out | refine below_set ?_ GE626.out) | exact HB.out)⟩⟩
              ·rw [if_neg c98] at H
               exact absurd H (by simp)
             ·rw [if_neg c97] at H
              have c97b0 : decide ((x627000_4.length : Int) < 5) = false := decide_eq_false c97
              have c97b1 : decide (x627000_4.length < 5) = false := decide_eq_false (by omega)
              clear c97
              simp only [Option.some.injEq, Prod.mk.injEq] at H
              obtain ⟨rfl, rfl, rfl, rfl, rfl, rfl, rfl⟩ := H
              have hnb106 := NB626_613.out
              have hnc106 := NB613_626.out
              have hnb107 := NB626_0.out
              have hnc107 := NB0_626.out
              have hcz108_0 : wr.cell? ⟨gb626, 0, none⟩ = some (u627000) := (blk_cell BK626.out 0).trans rfl
              have hcz108_1 : wr.cell? ⟨gb626, 1, none⟩ = some (u627001) := (blk_cell BK626.out 1).trans rfl
              have hcz108_2 : wr.cell? ⟨gb626, 2, none⟩ = some (u627002) := (blk_cell BK626.out 2).trans rfl
              have hcz108_3 : wr.cell? ⟨gb626, 3, none⟩ = some (.int .i64 t623) := (blk_cell BK626.out 3).trans rfl
              have hcz108_4 : wr.cell? ⟨gb626, 4, none⟩ = some (.int .i64 t627) := (blk_cell BK626.out 4).trans rfl
              have hfz108_0 := blk_frozen BK626.out 0
              have hfz108_1 := blk_frozen BK626.out 1
              have hfz108_2 := blk_frozen BK626.out 2
              have hfz108_3 := blk_frozen BK626.out 3
              have hfz108_4 := blk_frozen BK626.out 4
              obtain ⟨Ao109, co109, eo109⟩ := Kd.R_slice HO_627000.out
              subst eo109
              have hnb110 := NB613_0.out
              have hnc110 := NB0_613.out
              have hcz111_0 : wr.cell? ⟨gb613, 0, none⟩ = some (.slice none 0 0) := (blk_cell BK613.out 0).trans rfl
              have hcz111_1 : wr.cell? ⟨gb613, 1, none⟩ = some (.slice none 0 0) := (blk_cell BK613.out 1).trans rfl
              have hcz111_2 : wr.cell? ⟨gb613, 2, none⟩ = some (.slice none 0 0) := (blk_cell BK613.out 2).trans rfl
              have hcz111_3 : wr.cell? ⟨gb613, 3, none⟩ = some (.int .i64 0) := (blk_cell BK613.out 3).trans rfl
              have hcz111_4 : wr.cell? ⟨gb613, 4, none⟩ = some (.int .i64 0) := (blk_cell BK613.out 4).trans rfl
              have hfz111_0 := blk_frozen BK613.out 0
              have hfz111_1 := blk_frozen BK613.out 1
              have hfz111_2 := blk_frozen BK613.out 2
              have hfz111_3 := blk_frozen BK613.out 3
              have hfz111_4 := blk_frozen BK613.out 4
              obtain ⟨Ao112, co112, eo112⟩ := Kd.R_slice HO_627001.out
              subst eo112
              obtain ⟨Ao113, co113, eo113⟩ := Kd.R_slice HO_627002.out
              subst eo113
              go_wp2
              refine bodyPost_ret (results_cell_row rfl _ _ gb613 64 #[.slice Ao109 x627000_4.length co109, .slice Ao112 x627001_2.length co112, .slice Ao113 x627002_2.length co113, .int .i64 t623, .int .i64 t627] (0, 0) _ rfl (by (with_reducible repeat (first | refine blk_drewN ?_ _ | refine blk_drew ?_ | refine blk_alloc ?_ _)); refine blk_put (cs := #[.slice Ao109 x627000_4.length co109, .slice Ao112 x627001_2.length co112, .slice Ao113 x627002_2.length co113, .int .i64 t623, .int .i64 0]) ?_ 4 _ rfl; (with_reducible repeat (first | refine blk_drewN ?_ _ | refine blk_drew ?_ | refine blk_alloc ?_ _)); refine blk_put (cs := #[.slice Ao109 x627000_4.length co109, .slice Ao112 x627001_2.length co112, .slice Ao113 x627002_2.length co113, .int .i64 0, .int .i64 0]) ?_ 3 _ rfl; (with_reducible repeat (first | refine blk_drewN ?_ _ | refine blk_drew ?_ | refine blk_alloc ?_ _)); refine blk_put (cs := #[.slice Ao109 x627000_4.length co109, .slice Ao112 x627001_2.length co112, .slice none 0 0, .int .i64 0, .int .i64 0]) ?_ 2 _ rfl; (with_reducible repeat (first | refine blk_drewN ?_ _ | refine blk_drew ?_ | refine blk_alloc ?_ _)); refine blk_put (cs := #[.slice Ao109 x627000_4.length co109, .slice none 0 0, .slice none 0 0, .int .i64 0, .int .i64 0]) ?_ 1 _ rfl; (with_reducible repeat (first | refine blk_drewN ?_ _ | refine blk_drew ?_ | refine blk_alloc ?_ _)); refine blk_put (cs := #[.slice none 0 0, .slice none 0 0, .slice none 0 0, .int .i64 0, .int .i64 0]) ?_ 0 _ rfl; (with_reducible repeat (first | refine blk_drewN ?_ _ | refine blk_drew ?_ | refine blk_alloc ?_ _)); exact BK613.out) Try.underlying64 rfl (by kernel_rfl)) rfl ?_
              exact ⟨_, _, _, by first | rfl | (simp [errW_none, errW_some] <;> rfl) | (simp [*, errW_none, errW_some] <;> rfl) | (simp [Int.tdiv_eq_ediv_of_nonneg, *]; done), by (with_reducible repeat (first | apply Kd.R_alloc | apply Kd.R_drewN | apply Kd.R_drew)); exact Kd.R_mono (Kd.R_far (p := ⟨gb613, 4, none⟩) (Kd.R_far (p := ⟨gb613, 3, none⟩) (Kd.R_far (p := ⟨gb613, 2, none⟩) (Kd.R_far (p := ⟨gb613, 1, none⟩) (Kd.R_far (p := ⟨gb613, 0, none⟩) (Kd.R_types HO_627000.out BK613.out (by decide)) (fun _ hk => hk.2) (.slice Ao109 x627000_4.length co109)) (fun _ hk => hk.2) (.slice Ao112 x627001_2.length co112)) (fun _ hk => hk.2) (.slice Ao113 x627002_2.length co113)) (fun _ hk => hk.2) (.int .i64 t623)) (fun _ hk => hk.2) (.int .i64 t627)) (fun _ hk => trivial), by (with_reducible repeat (first | apply Kd.R_alloc | apply Kd.R_drewN | apply Kd.R_drew)); exact Kd.R_mono (Kd.R_far (p := ⟨gb613, 4, none⟩) (Kd.R_far (p := ⟨gb613, 3, none⟩) (Kd.R_far (p := ⟨gb613, 2, none⟩) (Kd.R_far (p := ⟨gb613, 1, none⟩) (Kd.R_far (p := ⟨gb613, 0, none⟩) (Kd.R_types HO_627001.out BK613.out (by decide)) (fun _ hk => hk.2) (.slice Ao109 x627000_4.length co109)) (fun _ hk => hk.2) (.slice Ao112 x627001_2.length co112)) (fun _ hk => hk.2) (.slice Ao113 x627002_2.length co113)) (fun _ hk => hk.2) (.int .i64 t623)) (fun _ hk => hk.2) (.int .i64 t627)) (fun _ hk => hk.1), by (with_reducible repeat (first | apply Kd.R_alloc | apply Kd.R_drewN | apply Kd.R_drew)); exact Kd.R_mono (Kd.R_far (p := ⟨gb613, 4, none⟩) (Kd.R_far (p := ⟨gb613, 3, none⟩) (Kd.R_far (p := ⟨gb613, 2, none⟩) (Kd.R_far (p := ⟨gb613, 1, none⟩) (Kd.R_far (p := ⟨gb613, 0, none⟩) (Kd.R_types HO_627002.out BK613.out (by decide)) (fun _ hk => hk.2) (.slice Ao109 x627000_4.length co109)) (fun _ hk => hk.2) (.slice Ao112 x627001_2.length co112)) (fun _ hk => hk.2) (.slice Ao113 x627002_2.length co113)) (fun _ hk => hk.2) (.int .i64 t623)) (fun _ hk => hk.2) (.int .i64 t627)) (fun _ hk => hk.1), by (try simp only [Int.add_zero]); repeat (first | (with_reducible first | exact HI0.out | apply IsS168.alloc | apply IsS168.drewN | apply IsS168.drew | refine IsS168.far ?_ NB0_613.out _ | refine IsS168.far ?_ NB0_626.out _) | exact HI0.out), by repeat (first | (with_reducible first | exact HB.out | apply below_alloc | apply pw_below_drewN | apply below_drew1 | refine below_set ?_ (IsS168.ge HI0.out) | refine below_set ?_ GE613.out | refine below_set ?_ GE626.out) | exact HB.out), by repeat (first | (with_reducible first | exact HK.out | apply KeepBut.set_ | apply keep_drewN | apply keep_drew | apply keep_alloc | refine keep_far ?_ GW613.out _ | refine keep_far ?_ GW626.out _) | exact HK.out)⟩
          ·rw [if_neg c89] at H
           exact absurd H (by simp)
         ·replace c88 := Bool.eq_false_iff.mpr c88
          subst c88
          have H1 : (some (x627000_3, x627001_2, x627002_2, t623, t627, t662, t663)) = some (r1, r2, r3, r4, r5, r6, r7) := by rw [if_neg (show ¬ (false = true) by decide)] at H; exact H
          clear H
          have H := H1
          clear H1
          simp only [Option.some.injEq, Prod.mk.injEq] at H
          obtain ⟨rfl, rfl, rfl, rfl, rfl, rfl, rfl⟩ := H
          go_wp2_with (first | ((with_reducible refine gate_callee (f := 103) rfl ?_); refine goesL_ (some 69) rfl rfl Try.func103 (by kernel_rfl) rfl #[.pointer (some ⟨g, 0, none⟩), .int .i64 16] rfl (by (try simp only [List.map_toArray, List.map_cons, List.map_nil]); first | done | rfl | (simp only [List.length_drop, List.length_take]; rfl)) ?_; (with_reducible refine (spec_l00Src_one.calls g s0_0 x1001_3 x1002_3 16 false t662 t663 w0 _ ?side1 ?side2 A87.out).mono ?_); (case side1 => repeat (first | (with_reducible first | exact HI0.out | apply IsS168.alloc | apply IsS168.drewN | apply IsS168.drew | refine IsS168.far ?_ NB0_613.out _ | refine IsS168.far ?_ NB0_626.out _) | exact HI0.out)); (case side2 => repeat (first | (with_reducible first | exact HB.out | apply below_alloc | apply pw_below_drewN | apply below_drew1 | refine below_set ?_ (IsS168.ge HI0.out) | refine below_set ?_ GE613.out | refine below_set ?_ GE626.out) | exact HB.out)); rintro e w114 ⟨rfl, hi, hb, hk⟩; refine ⟨_, rfl, ?_⟩; have n0_ := Aside0.mk (Kd.R_mono (Kd.R_keep (IsS168.apart (show IsS168 w0 _ g s0_0 x1001_3 x1002_3 from by repeat (first | (with_reducible first | exact HI0.out | apply IsS168.alloc | apply IsS168.drewN | apply IsS168.drew | refine IsS168.far ?_ NB0_613.out _ | refine IsS168.far ?_ NB0_626.out _) | exact HI0.out)) (by (with_reducible repeat (first | apply Kd.R_alloc | apply Kd.R_drewN | apply Kd.R_drew)); exact HO_627000.out) (by decide)) hk (fun _ h => h.2)) (fun _ h => h.1)); have n1_ := Aside0.mk (Kd.R_mono (Kd.R_keep (IsS168.apart (show IsS168 w0 _ g s0_0 x1001_3 x1002_3 from by repeat (first | (with_reducible first | exact HI0.out | apply IsS168.alloc | apply IsS168.drewN | apply IsS168.drew | refine IsS168.far ?_ NB0_613.out _ | refine IsS168.far ?_ NB0_626.out _) | exact HI0.out)) (by (with_reducible repeat (first | apply Kd.R_alloc | apply Kd.R_drewN | apply Kd.R_drew)); exact HO_627001.out) (by decide)) hk (fun _ h => h.2)) (fun _ h => h.1)); have n2_ := Aside0.mk (Kd.R_mono (Kd.R_keep (IsS168.apart (show IsS168 w0 _ g s0_0 x1001_3 x1002_3 from by repeat (first | (with_reducible first | exact HI0.out | apply IsS168.alloc | apply IsS168.drewN | apply IsS168.drew | refine IsS168.far ?_ NB0_613.out _ | refine IsS168.far ?_ NB0_626.out _) | exact HI0.out)) (by (with_reducible repeat (first | apply Kd.R_alloc | apply Kd.R_drewN | apply Kd.R_drew)); exact HO_627002.out) (by decide)) hk (fun _ h => h.2)) (fun _ h => h.1)); have n3_ := Aside0.mk (KeepBut.blk hk (g' := gb613) (o := .cells #[.slice none 0 0, .slice none 0 0, .slice none 0 0, .int .i64 0, .int .i64 0] 64 (0, 0)) (by (with_reducible repeat (first | refine blk_drewN ?_ _ | refine blk_drew ?_ | refine blk_alloc ?_ _)); exact BK613.out) NB613_0.out (by simp)); have n4_ := Aside0.mk (KeepBut.blk hk (g' := gb626) (o := .cells #[u627000, u627001, u627002, .int .i64 t623, .int .i64 t627] 64 (0, 0)) (by (with_reducible repeat (first | refine blk_drewN ?_ _ | refine blk_drew ?_ | refine blk_alloc ?_ _)); exact BK626.out) NB626_0.out (by simp)); have n5_ := Aside0.mk (KeepBut.trans (by repeat (first | (with_reducible first | exact HK.out | apply KeepBut.set_ | apply keep_drewN | apply keep_drew | apply keep_alloc | refine keep_far ?_ GW613.out _ | refine keep_far ?_ GW626.out _) | exact HK.out)) hk (.inl rfl)); have n6_ := Aside0.mk (hb); have n7_ := Aside0.mk (hi); clear HO_627000; clear HO_627001; clear HO_627002; clear BK613; clear BK626; clear HK; clear HB; clear HI0; have HO_627000 := n0_; have HO_627001 := n1_; have HO_627002 := n2_; have BK613 := n3_; have BK626 := n4_; have HK := n5_; have HB := n6_; have HI0 := n7_; clear n0_ n1_ n2_ n3_ n4_ n5_ n6_ n7_; (try clear hb); (try clear hb2); (try clear hk); (try clear hi); have hnb115 := NB626_613.out; have hnc115 := NB613_626.out; have hnb116 := NB626_0.out; have hnc116 := NB0_626.out; have hcz117_0 : w114.cell? ⟨gb626, 0, none⟩ = some (u627000) := (blk_cell BK626.out 0).trans rfl; have hcz117_1 : w114.cell? ⟨gb626, 1, none⟩ = some (u627001) := (blk_cell BK626.out 1).trans rfl; have hcz117_2 : w114.cell? ⟨gb626, 2, none⟩ = some (u627002) := (blk_cell BK626.out 2).trans rfl; have hcz117_3 : w114.cell? ⟨gb626, 3, none⟩ = some (.int .i64 t623) := (blk_cell BK626.out 3).trans rfl; have hcz117_4 : w114.cell? ⟨gb626, 4, none⟩ = some (.int .i64 t627) := (blk_cell BK626.out 4).trans rfl; have hfz117_0 := blk_frozen BK626.out 0; have hfz117_1 := blk_frozen BK626.out 1; have hfz117_2 := blk_frozen BK626.out 2; have hfz117_3 := blk_frozen BK626.out 3; have hfz117_4 := blk_frozen BK626.out 4; obtain ⟨Ao118, co118, eo118⟩ := Kd.R_slice HO_627000.out; subst eo118; have hnb119 := NB613_0.out; have hnc119 := NB0_613.out; have hcz120_0 : w114.cell? ⟨gb613, 0, none⟩ = some (.slice none 0 0) := (blk_cell BK613.out 0).trans rfl; have hcz120_1 : w114.cell? ⟨gb613, 1, none⟩ = some (.slice none 0 0) := (blk_cell BK613.out 1).trans rfl; have hcz120_2 : w114.cell? ⟨gb613, 2, none⟩ = some (.slice none 0 0) := (blk_cell BK613.out 2).trans rfl; have hcz120_3 : w114.cell? ⟨gb613, 3, none⟩ = some (.int .i64 0) := (blk_cell BK613.out 3).trans rfl; have hcz120_4 : w114.cell? ⟨gb613, 4, none⟩ = some (.int .i64 0) := (blk_cell BK613.out 4).trans rfl; have hfz120_0 := blk_frozen BK613.out 0; have hfz120_1 := blk_frozen BK613.out 1; have hfz120_2 := blk_frozen BK613.out 2; have hfz120_3 := blk_frozen BK613.out 3; have hfz120_4 := blk_frozen BK613.out 4; obtain ⟨Ao121, co121, eo121⟩ := Kd.R_slice HO_627001.out; subst eo121; obtain ⟨Ao122, co122, eo122⟩ := Kd.R_slice HO_627002.out; subst eo122))
          refine bodyPost_ret (results_cell_row rfl _ _ gb613 64 #[.slice Ao118 x627000_3.length co118, .slice Ao121 x627001_2.length co121, .slice Ao122 x627002_2.length co122, .int .i64 t623, .int .i64 t627] (0, 0) _ rfl (by (with_reducible repeat (first | refine blk_drewN ?_ _ | refine blk_drew ?_ | refine blk_alloc ?_ _)); refine blk_put (cs := #[.slice Ao118 x627000_3.length co118, .slice Ao121 x627001_2.length co121, .slice Ao122 x627002_2.length co122, .int .i64 t623, .int .i64 0]) ?_ 4 _ rfl; (with_reducible repeat (first | refine blk_drewN ?_ _ | refine blk_drew ?_ | refine blk_alloc ?_ _)); refine blk_put (cs := #[.slice Ao118 x627000_3.length co118, .slice Ao121 x627001_2.length co121, .slice Ao122 x627002_2.length co122, .int .i64 0, .int .i64 0]) ?_ 3 _ rfl; (with_reducible repeat (first | refine blk_drewN ?_ _ | refine blk_drew ?_ | refine blk_alloc ?_ _)); refine blk_put (cs := #[.slice Ao118 x627000_3.length co118, .slice Ao121 x627001_2.length co121, .slice none 0 0, .int .i64 0, .int .i64 0]) ?_ 2 _ rfl; (with_reducible repeat (first | refine blk_drewN ?_ _ | refine blk_drew ?_ | refine blk_alloc ?_ _)); refine blk_put (cs := #[.slice Ao118 x627000_3.length co118, .slice none 0 0, .slice none 0 0, .int .i64 0, .int .i64 0]) ?_ 1 _ rfl; (with_reducible repeat (first | refine blk_drewN ?_ _ | refine blk_drew ?_ | refine blk_alloc ?_ _)); refine blk_put (cs := #[.slice none 0 0, .slice none 0 0, .slice none 0 0, .int .i64 0, .int .i64 0]) ?_ 0 _ rfl; (with_reducible repeat (first | refine blk_drewN ?_ _ | refine blk_drew ?_ | refine blk_alloc ?_ _)); exact BK613.out) Try.underlying64 rfl (by kernel_rfl)) rfl ?_
          exact ⟨_, _, _, by first | rfl | (simp [errW_none, errW_some] <;> rfl) | (simp [*, errW_none, errW_some] <;> rfl) | (simp [Int.tdiv_eq_ediv_of_nonneg, *]; done), by (with_reducible repeat (first | apply Kd.R_alloc | apply Kd.R_drewN | apply Kd.R_drew)); exact Kd.R_mono (Kd.R_far (p := ⟨gb613, 4, none⟩) (Kd.R_far (p := ⟨gb613, 3, none⟩) (Kd.R_far (p := ⟨gb613, 2, none⟩) (Kd.R_far (p := ⟨gb613, 1, none⟩) (Kd.R_far (p := ⟨gb613, 0, none⟩) (Kd.R_types HO_627000.out BK613.out (by decide)) (fun _ hk => hk.2) (.slice Ao118 x627000_3.length co118)) (fun _ hk => hk.2) (.slice Ao121 x627001_2.length co121)) (fun _ hk => hk.2) (.slice Ao122 x627002_2.length co122)) (fun _ hk => hk.2) (.int .i64 t623)) (fun _ hk => hk.2) (.int .i64 t627)) (fun _ hk => trivial), by (with_reducible repeat (first | apply Kd.R_alloc | apply Kd.R_drewN | apply Kd.R_drew)); exact Kd.R_mono (Kd.R_far (p := ⟨gb613, 4, none⟩) (Kd.R_far (p := ⟨gb613, 3, none⟩) (Kd.R_far (p := ⟨gb613, 2, none⟩) (Kd.R_far (p := ⟨gb613, 1, none⟩) (Kd.R_far (p := ⟨gb613, 0, none⟩) (Kd.R_types HO_627001.out BK613.out (by decide)) (fun _ hk => hk.2) (.slice Ao118 x627000_3.length co118)) (fun _ hk => hk.2) (.slice Ao121 x627001_2.length co121)) (fun _ hk => hk.2) (.slice Ao122 x627002_2.length co122)) (fun _ hk => hk.2) (.int .i64 t623)) (fun _ hk => hk.2) (.int .i64 t627)) (fun _ hk => hk.1), by (with_reducible repeat (first | apply Kd.R_alloc | apply Kd.R_drewN | apply Kd.R_drew)); exact Kd.R_mono (Kd.R_far (p := ⟨gb613, 4, none⟩) (Kd.R_far (p := ⟨gb613, 3, none⟩) (Kd.R_far (p := ⟨gb613, 2, none⟩) (Kd.R_far (p := ⟨gb613, 1, none⟩) (Kd.R_far (p := ⟨gb613, 0, none⟩) (Kd.R_types HO_627002.out BK613.out (by decide)) (fun _ hk => hk.2) (.slice Ao118 x627000_3.length co118)) (fun _ hk => hk.2) (.slice Ao121 x627001_2.length co121)) (fun _ hk => hk.2) (.slice Ao122 x627002_2.length co122)) (fun _ hk => hk.2) (.int .i64 t623)) (fun _ hk => hk.2) (.int .i64 t627)) (fun _ hk => hk.1), by (try simp only [Int.add_zero]); repeat (first | (with_reducible first | exact HI0.out | apply IsS168.alloc | apply IsS168.drewN | apply IsS168.drew | refine IsS168.far ?_ NB0_613.out _ | refine IsS168.far ?_ NB0_626.out _) | exact HI0.out), by repeat (first | (with_reducible first | exact HB.out | apply below_alloc | apply pw_below_drewN | apply below_drew1 | refine below_set ?_ (IsS168.ge HI0.out) | refine below_set ?_ GE613.out | refine below_set ?_ GE626.out) | exact HB.out), by repeat (first | (with_reducible first | exact HK.out | apply KeepBut.set_ | apply keep_drewN | apply keep_drew | apply keep_alloc | refine keep_far ?_ GW613.out _ | refine keep_far ?_ GW626.out _) | exact HK.out)⟩

end Go.Proofs.Ytajndapolblhmab.P
namespace Go.Proofs.Ytajndapolblhmab.P
open Go.RowKit Go.Proofs.YtajndapolblhmabW.PrintWords Go.Proofs.YtajndapolblhmabW.PrintLast Go.Proofs.YtajndapolblhmabW.PrintMore
attribute [local go_sem] max2_int min2_int max_two min_two max_three min_three max_four min_four   -- for this text's walks alone
set_option linter.unusedVariables false
set_option linter.unusedSimpArgs false

def spec_R8Head.f (k : Nat) (l0 : List Int) : Option ((List (S79)) × List Int × List Int × Int × Int) := (spec_l00From.f l0).bind fun bt669 => ((spec_l08DrawOk.f k bt669.1 bt669.2.1 bt669.2.2).bind fun bt673 => (some (bt673.1, bt673.2.1, bt673.2.2.1, bt673.2.2.2.1, bt673.2.2.2.2.1)))
set_option maxHeartbeats 8000000 in
set_option maxRecDepth 100000 in
theorem spec_R8Head.calls (k : Nat) (A0 : Option Addr) (c0 : Nat) (l0 : List Int) (r1 : List (S79)) (r2 : List Int) (r3 : List Int) (r4 : Int) (r5 : Int) (w : World) (hr0 : Kd.C (Kd.int .u8) w A0 l0.length l0) (hc0 : l0.length ≤ c0) (h : spec_R8Head.f k l0 = some (r1, r2, r3, r4, r5)) :
  Calls Try.prog 46 #[.slice A0 l0.length c0] w fun e w' => ∃ v0_ v1_ v2_ : Value, e = .returned (.agg #[v0_, v1_, v2_, .int .i64 r4, .int .i64 r5]) ∧ Kd.R k79 79 w' w.heap.size (fun _ => True) v0_ r1 ∧ Kd.R (Kd.int .i64) 2 w' w.heap.size (fun k_ => some k_ ≠ (v2_ : Value).ownBlock) v1_ r2 ∧ Kd.R (Kd.int .i64) 2 w' w.heap.size (fun k_ => some k_ ≠ (v1_ : Value).ownBlock) v2_ r3 ∧ Below w.heap.size w w' := by
 have hu64 := Try.underlying64
 have HR0 := Aside0.mk hr0
 have HC0 := Aside0.mk hc0
 clear hr0 hc0
 have HB := Aside0.mk (Below.refl w.heap.size w)
 have H : ((spec_l00From.f l0).bind fun bt669 => ((spec_l08DrawOk.f k bt669.1 bt669.2.1 bt669.2.2).bind fun bt673 => (some (bt673.1, bt673.2.1, bt673.2.2.1, bt673.2.2.2.1, bt673.2.2.2.2.1)))) = some (r1, r2, r3, r4, r5) := h
 clear h
 replace H := Option.bind_eq_some_iff.mp H
 obtain ⟨⟨t669, t670, t671⟩, A20, H⟩ := H
 replace H : ((spec_l08DrawOk.f k t669 t670 t671).bind fun bt673 => (some (bt673.1, bt673.2.1, bt673.2.2.1, bt673.2.2.2.1, bt673.2.2.2.2.1))) = some (r1, r2, r3, r4, r5) := H
 have A2 := Aside0.mk A20
 clear A20
 replace H := Option.bind_eq_some_iff.mp H
 obtain ⟨⟨t673, t676, t679, t682, t683, t684, t685⟩, A30, H⟩ := H
 replace H : (some (t673, t676, t679, t682, t683)) = some (r1, r2, r3, r4, r5) := H
 have A3 := Aside0.mk A30
 clear A30
 simp only [Option.some.injEq, Prod.mk.injEq] at H
 obtain ⟨rfl, rfl, rfl, rfl, rfl⟩ := H
 go_enter Try.func46, Try.ntmps46
 go_wp2_with (first | ((with_reducible refine gate_dst (N := 2) rfl ?_); refine box_event ?hg (N := 2) ?hd (cs := #[.slice none 0 0, .slice none 0 0, .slice none 0 0, .int .i64 0, .int .i64 0]) (t := 64) ?hr ?_; (case hd => rfl); (case hg => rfl); (case hr => first | (go_simp; done) | (go_simp; rfl)); intro gb668 hg w4 hbox hb; have n0_ := Aside0.mk (below_step (by repeat (first | (with_reducible first | exact HB.out | apply below_alloc | apply pw_below_drewN | apply below_drew1) | exact HB.out)) hb); have n1_ := Aside0.mk (hbox); have n2_ := Aside0.mk ((by rw [hg]; exact (below_size (by repeat (first | (with_reducible first | exact HB.out | apply below_alloc | apply pw_below_drewN | apply below_drew1) | exact HB.out))) : w.heap.size ≤ gb668)); have n3_ := Aside0.mk ((by rw [hg]; exact (below_size (by repeat (first | (with_reducible first | exact HB.out | apply below_alloc | apply pw_below_drewN | apply below_drew1) | exact HB.out))) : w.heap.size ≤ gb668)); clear HB; have HB := n0_; have BK668 := n1_; have GW668 := n2_; have GE668 := n3_; clear n0_ n1_ n2_ n3_; clear hb hbox hg) | ((with_reducible refine gate_callee (f := 73) rfl ?_); refine goesL_ (some 5) rfl rfl Try.func73 (by kernel_rfl) rfl #[.slice A0 l0.length c0] rfl (by (try simp only [List.map_toArray, List.map_cons, List.map_nil]); first | done | rfl | (simp only [List.length_drop, List.length_take]; rfl)) ?_; (with_reducible refine (spec_l00From.calls _ _ l0 t669 t670 t671 w _ ?side1 ?side2 ?side3 A2.out).mono ?_); (case side1 => repeat (first | (with_reducible first | exact HB.out | apply below_alloc | apply pw_below_drewN | apply below_drew1 | refine below_set ?_ GE668.out) | exact HB.out)); (case side2 => exact HR0.out); (case side3 => exact HC0.out); rintro e w5 ⟨g672, rfl, hi, hb, hb2⟩; refine ⟨_, rfl, ?_⟩; have n0_ := Aside0.mk (blk_below (g := gb668) (o := .cells #[.slice none 0 0, .slice none 0 0, .slice none 0 0, .int .i64 0, .int .i64 0] 64 (0, 0)) (by (with_reducible repeat (first | refine blk_drewN ?_ _ | refine blk_drew ?_ | refine blk_alloc ?_ _)); exact BK668.out) hb2); have n1_ := Aside0.mk (hb); have n2_ := Aside0.mk (hi); have n3_ := Aside0.mk (IsS168.ne_blk hi (blk_below (g := gb668) (o := .cells #[.slice none 0 0, .slice none 0 0, .slice none 0 0, .int .i64 0, .int .i64 0] 64 (0, 0)) (by (with_reducible repeat (first | refine blk_drewN ?_ _ | refine blk_drew ?_ | refine blk_alloc ?_ _)); exact BK668.out) hb2) (by decide)); have n4_ := Aside0.mk (Ne.symm (IsS168.ne_blk hi (blk_below (g := gb668) (o := .cells #[.slice none 0 0, .slice none 0 0, .slice none 0 0, .int .i64 0, .int .i64 0] 64 (0, 0)) (by (with_reducible repeat (first | refine blk_drewN ?_ _ | refine blk_drew ?_ | refine blk_alloc ?_ _)); exact BK668.out) hb2) (by decide))); clear BK668; clear HB; have BK668 := n0_; have HB := n1_; have HI672 := n2_; have NB672_668 := n3_; have NB668_672 := n4_; clear n0_ n1_ n2_ n3_ n4_; (try clear hb); (try clear hb2); (try clear hk); (try clear hi)) | ((with_reducible refine gate_callee (f := 102) rfl ?_); refine goesL_ (some 7) rfl rfl Try.func102 (by kernel_rfl) rfl #[.pointer (some ⟨g672, 0, none⟩)] rfl (by (try simp only [List.map_toArray, List.map_cons, List.map_nil]); first | done | rfl | (simp only [List.length_drop, List.length_take]; rfl)) ?_; (with_reducible refine (spec_l08DrawOk.calls k g672 t669 t670 t671 t673 t676 t679 t682 t683 t684 t685 w _ ?side1 ?side2 A3.out).mono ?_); (case side1 => repeat (first | (with_reducible first | exact HI672.out | apply IsS168.alloc | apply IsS168.drewN | apply IsS168.drew | apply IsS168.set_1 | apply IsS168.set_2 | refine IsS168.far ?_ NB672_668.out _) | exact HI672.out)); (case side2 => repeat (first | (with_reducible first | exact HB.out | apply below_alloc | apply pw_below_drewN | apply below_drew1 | refine below_set ?_ (IsS168.ge HI672.out) | refine below_set ?_ GE668.out) | exact HB.out)); rintro e w6 ⟨v674, v677, v680, rfl, ho0, ho1, ho2, hi, hb, hk⟩; refine ⟨_, rfl, ?_⟩; have n0_ := Aside0.mk (KeepBut.blk hk (g' := gb668) (o := .cells #[.slice none 0 0, .slice none 0 0, .slice none 0 0, .int .i64 0, .int .i64 0] 64 (0, 0)) (by (with_reducible repeat (first | refine blk_drewN ?_ _ | refine blk_drew ?_ | refine blk_alloc ?_ _)); exact BK668.out) NB668_672.out (by simp)); have n1_ := Aside0.mk (Kd.R_lower ho0 (below_size (by repeat (first | (with_reducible first | exact HB.out | apply below_alloc | apply pw_below_drewN | apply below_drew1 | refine below_set ?_ (IsS168.ge HI672.out) | refine below_set ?_ GE668.out) | exact HB.out)))); have n2_ := Aside0.mk (Kd.R_lower ho1 (below_size (by repeat (first | (with_reducible first | exact HB.out | apply below_alloc | apply pw_below_drewN | apply below_drew1 | refine below_set ?_ (IsS168.ge HI672.out) | refine below_set ?_ GE668.out) | exact HB.out)))); have n3_ := Aside0.mk (Kd.R_lower ho2 (below_size (by repeat (first | (with_reducible first | exact HB.out | apply below_alloc | apply pw_below_drewN | apply below_drew1 | refine below_set ?_ (IsS168.ge HI672.out) | refine below_set ?_ GE668.out) | exact HB.out)))); have n4_ := Aside0.mk (hb); have n5_ := Aside0.mk (hi); clear BK668; clear HB; clear HI672; have BK668 := n0_; have HO675 := n1_; have HO678 := n2_; have HO681 := n3_; have HB := n4_; have HI672 := n5_; clear n0_ n1_ n2_ n3_ n4_ n5_; (try clear hb); (try clear hb2); (try clear hk); (try clear hi); (try clear ho0); (try clear ho1); (try clear ho2); obtain ⟨Ao7, co7, eo7⟩ := Kd.R_slice HO675.out; subst eo7; have hnb8 := NB668_672.out; have hnc8 := NB672_668.out; have hcz9_0 : w6.cell? ⟨gb668, 0, none⟩ = some (.slice none 0 0) := (blk_cell BK668.out 0).trans rfl; have hcz9_1 : w6.cell? ⟨gb668, 1, none⟩ = some (.slice none 0 0) := (blk_cell BK668.out 1).trans rfl; have hcz9_2 : w6.cell? ⟨gb668, 2, none⟩ = some (.slice none 0 0) := (blk_cell BK668.out 2).trans rfl; have hcz9_3 : w6.cell? ⟨gb668, 3, none⟩ = some (.int .i64 0) := (blk_cell BK668.out 3).trans rfl; have hcz9_4 : w6.cell? ⟨gb668, 4, none⟩ = some (.int .i64 0) := (blk_cell BK668.out 4).trans rfl; have hfz9_0 := blk_frozen BK668.out 0; have hfz9_1 := blk_frozen BK668.out 1; have hfz9_2 := blk_frozen BK668.out 2; have hfz9_3 := blk_frozen BK668.out 3; have hfz9_4 := blk_frozen BK668.out 4; obtain ⟨Ao10, co10, eo10⟩ := Kd.R_slice HO678.out; subst eo10; obtain ⟨Ao11, co11, eo11⟩ := Kd.R_slice HO681.out; subst eo11))
 refine bodyPost_ret (results_cell_row rfl _ _ gb668 64 #[.slice Ao7 t673.length co7, .slice Ao10 t676.length co10, .slice Ao11 t679.length co11, .int .i64 t682, .int .i64 t683] (0, 0) _ rfl (by (with_reducible repeat (first | refine blk_drewN ?_ _ | refine blk_drew ?_ | refine blk_alloc ?_ _)); refine blk_put (cs := #[.slice Ao7 t673.length co7, .slice Ao10 t676.length co10, .slice Ao11 t679.length co11, .int .i64 t682, .int .i64 0]) ?_ 4 _ rfl; (with_reducible repeat (first | refine blk_drewN ?_ _ | refine blk_drew ?_ | refine blk_alloc ?_ _)); refine blk_put (cs := #[.slice Ao7 t673.length co7, .slice Ao10 t676.length co10, .slice Ao11 t679.length co11, .int .i64 0, .int .i64 0]) ?_ 3 _ rfl; (with_reducible repeat (first | refine blk_drewN ?_ _ | refine blk_drew ?_ | refine blk_alloc ?_ _)); refine blk_put (cs := #[.slice Ao7 t673.length co7, .slice Ao10 t676.length co10, .slice none 0 0, .int .i64 0, .int .i64 0]) ?_ 2 _ rfl; (with_reducible repeat (first | refine blk_drewN ?_ _ | refine blk_drew ?_ | refine blk_alloc ?_ _)); refine blk_put (cs := #[.slice Ao7 t673.length co7, .slice none 0 0, .slice none 0 0, .int .i64 0, .int .i64 0]) ?_ 1 _ rfl; (with_reducible repeat (first | refine blk_drewN ?_ _ | refine blk_drew ?_ | refine blk_alloc ?_ _)); refine blk_put (cs := #[.slice none 0 0, .slice none 0 0, .slice none 0 0, .int .i64 0, .int .i64 0]) ?_ 0 _ rfl; (with_reducible repeat (first | refine blk_drewN ?_ _ | refine blk_drew ?_ | refine blk_alloc ?_ _)); exact BK668.out) Try.underlying64 rfl (by kernel_rfl)) rfl ?_
 exact ⟨_, _, _, by first | rfl | (simp [errW_none, errW_some] <;> rfl) | (simp [*, errW_none, errW_some] <;> rfl) | (simp [Int.tdiv_eq_ediv_of_nonneg, *]; done), by (with_reducible repeat (first | apply Kd.R_alloc | apply Kd.R_drewN | apply Kd.R_drew)); exact Kd.R_mono (Kd.R_far (p := ⟨gb668, 4, none⟩) (Kd.R_far (p := ⟨gb668, 3, none⟩) (Kd.R_far (p := ⟨gb668, 2, none⟩) (Kd.R_far (p := ⟨gb668, 1, none⟩) (Kd.R_far (p := ⟨gb668, 0, none⟩) (Kd.R_types HO675.out BK668.out (by decide)) (fun _ hk => hk.2) (.slice Ao7 t673.length co7)) (fun _ hk => hk.2) (.slice Ao10 t676.length co10)) (fun _ hk => hk.2) (.slice Ao11 t679.length co11)) (fun _ hk => hk.2) (.int .i64 t682)) (fun _ hk => hk.2) (.int .i64 t683)) (fun _ hk => trivial), by (with_reducible repeat (first | apply Kd.R_alloc | apply Kd.R_drewN | apply Kd.R_drew)); exact Kd.R_mono (Kd.R_far (p := ⟨gb668, 4, none⟩) (Kd.R_far (p := ⟨gb668, 3, none⟩) (Kd.R_far (p := ⟨gb668, 2, none⟩) (Kd.R_far (p := ⟨gb668, 1, none⟩) (Kd.R_far (p := ⟨gb668, 0, none⟩) (Kd.R_types HO678.out BK668.out (by decide)) (fun _ hk => hk.2) (.slice Ao7 t673.length co7)) (fun _ hk => hk.2) (.slice Ao10 t676.length co10)) (fun _ hk => hk.2) (.slice Ao11 t679.length co11)) (fun _ hk => hk.2) (.int .i64 t682)) (fun _ hk => hk.2) (.int .i64 t683)) (fun _ hk => hk.1), by (with_reducible repeat (first | apply Kd.R_alloc | apply Kd.R_drewN | apply Kd.R_drew)); exact Kd.R_mono (Kd.R_far (p := ⟨gb668, 4, none⟩) (Kd.R_far (p := ⟨gb668, 3, none⟩) (Kd.R_far (p := ⟨gb668, 2, none⟩) (Kd.R_far (p := ⟨gb668, 1, none⟩) (Kd.R_far (p := ⟨gb668, 0, none⟩) (Kd.R_types HO681.out BK668.out (by decide)) (fun _ hk => hk.2) (.slice Ao7 t673.length co7)) (fun _ hk => hk.2) (.slice Ao10 t676.length co10)) (fun _ hk => hk.2) (.slice Ao11 t679.length co11)) (fun _ hk => hk.2) (.int .i64 t682)) (fun _ hk => hk.2) (.int .i64 t683)) (fun _ hk => hk.1), by repeat (first | (with_reducible first | exact HB.out | apply below_alloc | apply pw_below_drewN | apply below_drew1 | refine below_set ?_ (IsS168.ge HI672.out) | refine below_set ?_ GE668.out) | exact HB.out)⟩

mutual
def spec_R8Plan.l0 : Nat → List (S94) → Int → List (S79) → List Int → List Int → Int → Int → List Int → Int → Int → Option ((List (S94)))
 | 0, _, _, _, _, _, _, _, _, _, _ => none
 | k + 1, x6, x7, x687000, x687001, x687002, x687003, x687004, x691000, x691001, x691002 => if x7 < (x687002.length : Int) then ((spec_l00Src_one.f x691000 x691001 x691002 4).bind fun bt694 => (if bt694.1 = true then (spec_R8Plan.l0 k x6 (wrap64 (x7 + 1)) x687000 x687001 x687002 x687003 x687004 x691000 bt694.2.1 bt694.2.2) else (spec_R8Plan.l1 k x6 x7 (([] : List Int)) 0 x687000 x687001 x687002 x687003 x687004 x691000 bt694.2.1 bt694.2.2))) else (some x6)
def spec_R8Plan.l1 : Nat → List (S94) → Int → List Int → Int → List (S79) → List Int → List Int → Int → Int → List Int → Int → Int → Option ((List (S94)))
 | 0, _, _, _, _, _, _, _, _, _, _, _, _ => none
 | k + 1, x6, x7, x8, x9, x687000, x687001, x687002, x687003, x687004, x691000, x691001, x691002 => if x9 < (x687000.length : Int) then ((spec_l00Src_one.f x691000 x691001 x691002 3).bind fun bt700 => (if bt700.1 = true then (spec_R8Plan.l1 k x6 x7 x8 (wrap64 (x9 + 1)) x687000 x687001 x687002 x687003 x687004 x691000 bt700.2.1 bt700.2.2) else (if x8.length < 17592186044416 then (spec_R8Plan.l1 k x6 x7 (x8 ++ [x9]) (wrap64 (x9 + 1)) x687000 x687001 x687002 x687003 x687004 x691000 bt700.2.1 bt700.2.2) else (none)))) else (if (x8.length : Int) > 0 then (if 0 ≤ x7 then (if x7 < (x687002.length : Int) then (if x6.length < 4398046511104 then (spec_R8Plan.l0 k (x6 ++ [(⟨rd x687002 x7, x8⟩ : S94)]) (wrap64 (x7 + 1)) x687000 x687001 x687002 x687003 x687004 x691000 x691001 x691002) else (none)) else (none)) else (none)) else (spec_R8Plan.l0 k x6 (wrap64 (x7 + 1)) x687000 x687001 x687002 x687003 x687004 x691000 x691001 x691002))
end
def spec_R8Plan.f (k : Nat) (l0 : List Int) (l1_0 : List (S79)) (l1_1 : List Int) (l1_2 : List Int) (a1_3 : Int) (a1_4 : Int) : Option ((List (S94))) := (spec_l00From.f l0).bind fun bt687 => (spec_R8Plan.l0 k (([] : List (S94))) 0 l1_0 l1_1 l1_2 a1_3 a1_4 bt687.1 bt687.2.1 bt687.2.2)
set_option maxHeartbeats 8000000 in
set_option maxRecDepth 100000 in
theorem spec_R8Plan.calls (k : Nat) (A0 : Option Addr) (c0 : Nat) (l0 : List Int) (A1_0 : Option Addr) (c1_0 : Nat) (l1_0 : List (S79)) (A1_1 : Option Addr) (c1_1 : Nat) (l1_1 : List Int) (A1_2 : Option Addr) (c1_2 : Nat) (l1_2 : List Int) (a1_3 : Int) (a1_4 : Int) (r : List (S94)) (w : World) (hr0 : Kd.C (Kd.int .u8) w A0 l0.length l0) (hc0 : l0.length ≤ c0) (hr1_0 : Kd.C k79 w A1_0 l1_0.length l1_0) (hc1_0 : l1_0.length ≤ c1_0) (hr1_1 : Kd.C (Kd.int .i64) w A1_1 l1_1.length l1_1) (hc1_1 : l1_1.length ≤ c1_1) (hr1_2 : Kd.C (Kd.int .i64) w A1_2 l1_2.length l1_2) (hc1_2 : l1_2.length ≤ c1_2) (h : spec_R8Plan.f k l0 l1_0 l1_1 l1_2 a1_3 a1_4 = some r) :
  Calls Try.prog 47 #[.slice A0 l0.length c0, .agg #[.slice A1_0 l1_0.length c1_0, .slice A1_1 l1_1.length c1_1, .slice A1_2 l1_2.length c1_2, .int .i64 a1_3, .int .i64 a1_4]] w fun e w' => ∃ v0_ : Value, e = .returned (v0_) ∧ Kd.S k94 94 w' w.heap.size (fun _ => True) v0_ r ∧ Below w.heap.size w w' := by
 have hu64 := Try.underlying64
 have hu94 := Try.underlying94
 have HR0 := Aside0.mk hr0
 have HC0 := Aside0.mk hc0
 clear hr0 hc0
 have HR1_0 := Aside0.mk hr1_0
 have HC1_0 := Aside0.mk hc1_0
 clear hr1_0 hc1_0
 have HR1_1 := Aside0.mk hr1_1
 have HC1_1 := Aside0.mk hc1_1
 clear hr1_1 hc1_1
 have HR1_2 := Aside0.mk hr1_2
 have HC1_2 := Aside0.mk hc1_2
 clear hr1_2 hc1_2
 have HB := Aside0.mk (Below.refl w.heap.size w)
 have H : ((spec_l00From.f l0).bind fun bt687 => (spec_R8Plan.l0 k (([] : List (S94))) 0 l1_0 l1_1 l1_2 a1_3 a1_4 bt687.1 bt687.2.1 bt687.2.2)) = some r := h
 clear h
 replace H := Option.bind_eq_some_iff.mp H
 obtain ⟨⟨t687, t688, t689⟩, A30, H⟩ := H
 replace H : (spec_R8Plan.l0 k (([] : List (S94))) 0 l1_0 l1_1 l1_2 a1_3 a1_4 t687 t688 t689) = some r := H
 have A3 := Aside0.mk A30
 clear A30
 obtain ⟨y691, hy691⟩ : ∃ y_ : List (S94), y_ = (([] : List (S94))) := ⟨_, rfl⟩
 replace H : (spec_R8Plan.l0 k y691 0 l1_0 l1_1 l1_2 a1_3 a1_4 t687 t688 t689) = some r := by first | (rw [hy691]; with_reducible exact H) | (have H2_ := (Option.bind_some _ _).symm.trans H; rw [hy691]; with_reducible exact H2_) | (have H2_ := (Option.bind_some _ _).symm.trans H; with_reducible exact H2_) | with_reducible exact H | (rw [hy691]; exact H) | exact H
 have Ny691 := Aside0.mk hy691
 clear hy691
 have H' := Aside0.mk H
 clear H
 go_enter Try.func47, Try.ntmps47
 go_wp2_with (first | ((with_reducible refine gate_dst (N := 3) rfl ?_); refine box_event ?hg (N := 3) ?hd (cs := #[.slice A1_0 l1_0.length c1_0, .slice A1_1 l1_1.length c1_1, .slice A1_2 l1_2.length c1_2, .int .i64 a1_3, .int .i64 a1_4]) (t := 64) ?hr ?_; (case hd => rfl); (case hg => rfl); (case hr => first | (go_simp; done) | (go_simp; rfl)); intro gb686 hg w4 hbox hb; have n0_ := Aside0.mk (below_step (by repeat (first | (with_reducible first | exact HB.out | apply below_alloc | apply pw_below_drewN | apply below_drew1) | exact HB.out)) hb); have n1_ := Aside0.mk (hbox); have n2_ := Aside0.mk ((by rw [hg]; exact (below_size (by repeat (first | (with_reducible first | exact HB.out | apply below_alloc | apply pw_below_drewN | apply below_drew1) | exact HB.out))) : w.heap.size ≤ gb686)); have n3_ := Aside0.mk ((by rw [hg]; exact (below_size (by repeat (first | (with_reducible first | exact HB.out | apply below_alloc | apply pw_below_drewN | apply below_drew1) | exact HB.out))) : w.heap.size ≤ gb686)); clear HB; have HB := n0_; have BK686 := n1_; have GW686 := n2_; have GE686 := n3_; clear n0_ n1_ n2_ n3_; clear hb hbox hg) | ((with_reducible refine gate_callee (f := 73) rfl ?_); refine goesL_ (some 11) rfl rfl Try.func73 (by kernel_rfl) rfl #[.slice A0 l0.length c0] rfl (by (try simp only [List.map_toArray, List.map_cons, List.map_nil]); first | done | rfl | (simp only [List.length_drop, List.length_take]; rfl)) ?_; (with_reducible refine (spec_l00From.calls _ _ l0 t687 t688 t689 w _ ?side1 ?side2 ?side3 A3.out).mono ?_); (case side1 => repeat (first | (with_reducible first | exact HB.out | apply below_alloc | apply pw_below_drewN | apply below_drew1 | refine below_set ?_ GE686.out) | exact HB.out)); (case side2 => exact HR0.out); (case side3 => exact HC0.out); rintro e w5 ⟨g690, rfl, hi, hb, hb2⟩; refine ⟨_, rfl, ?_⟩; have n0_ := Aside0.mk (blk_below (g := gb686) (o := .cells #[.slice A1_0 l1_0.length c1_0, .slice A1_1 l1_1.length c1_1, .slice A1_2 l1_2.length c1_2, .int .i64 a1_3, .int .i64 a1_4] 64 (0, 0)) (by (with_reducible repeat (first | refine blk_drewN ?_ _ | refine blk_drew ?_ | refine blk_alloc ?_ _)); exact BK686.out) hb2); have n1_ := Aside0.mk (hb); have n2_ := Aside0.mk (hi); have n3_ := Aside0.mk (IsS168.ne_blk hi (blk_below (g := gb686) (o := .cells #[.slice A1_0 l1_0.length c1_0, .slice A1_1 l1_1.length c1_1, .slice A1_2 l1_2.length c1_2, .int .i64 a1_3, .int .i64 a1_4] 64 (0, 0)) (by (with_reducible repeat (first | refine blk_drewN ?_ _ | refine blk_drew ?_ | refine blk_alloc ?_ _)); exact BK686.out) hb2) (by decide)); have n4_ := Aside0.mk (Ne.symm (IsS168.ne_blk hi (blk_below (g := gb686) (o := .cells #[.slice A1_0 l1_0.length c1_0, .slice A1_1 l1_1.length c1_1, .slice A1_2 l1_2.length c1_2, .int .i64 a1_3, .int .i64 a1_4] 64 (0, 0)) (by (with_reducible repeat (first | refine blk_drewN ?_ _ | refine blk_drew ?_ | refine blk_alloc ?_ _)); exact BK686.out) hb2) (by decide))); clear BK686; clear HB; have BK686 := n0_; have HB := n1_; have HI690 := n2_; have NB690_686 := n3_; have NB686_690 := n4_; clear n0_ n1_ n2_ n3_ n4_; (try clear hb); (try clear hb2); (try clear hk); (try clear hi)) | ((with_reducible refine gate_dst (N := 12) rfl ?_); refine Kd.S_lit k94 _ 94 ?hg (N := 12) ?hd (xs := ([] : List (S94))) (inner := []) (ok := fun _ => True) (okp := fun _ => True) ?hr ?hp (fun _ hk => hk) trivial (Below.refl _ _) (Nat.le_refl _) (by simp) ?_; (case hd => rfl); (case hg => rfl); (case hr => first | (go_simp; done) | (go_simp; rfl)); (case hp => exact (Reps.none _ _)); intro v692 w6 ho7 hb hg_ hnew_; clear hg_ hnew_; (first | rw [← Ny691.out] at ho7 | (simp only [Int.reduceToNat] at ho7; rw [← Ny691.out] at ho7)); have n0_ := Aside0.mk (Kd.S_lower ho7 (below_size (by repeat (first | (with_reducible first | exact HB.out | apply below_alloc | apply pw_below_drewN | apply below_drew1 | refine below_set ?_ (IsS168.ge HI690.out) | refine below_set ?_ GE686.out) | exact HB.out)))); have n1_ := Aside0.mk (blk_below (g := gb686) (o := .cells #[.slice A1_0 l1_0.length c1_0, .slice A1_1 l1_1.length c1_1, .slice A1_2 l1_2.length c1_2, .int .i64 a1_3, .int .i64 a1_4] 64 (0, 0)) (by (with_reducible repeat (first | refine blk_drewN ?_ _ | refine blk_drew ?_ | refine blk_alloc ?_ _)); exact BK686.out) hb); have n2_ := Aside0.mk (IsS168.below (by repeat (first | (with_reducible first | exact HI690.out | apply IsS168.alloc | apply IsS168.drewN | apply IsS168.drew | apply IsS168.set_1 | apply IsS168.set_2 | refine IsS168.far ?_ NB690_686.out _) | exact HI690.out)) hb); have n3_ := Aside0.mk (below_step (by repeat (first | (with_reducible first | exact HB.out | apply below_alloc | apply pw_below_drewN | apply below_drew1 | refine below_set ?_ (IsS168.ge HI690.out) | refine below_set ?_ GE686.out) | exact HB.out)) hb); clear BK686; clear HI690; clear HB; have HO693 := n0_; have BK686 := n1_; have HI690 := n2_; have HB := n3_; clear n0_ n1_ n2_ n3_; clear hb ho7))
 go_loopg [6, 7] k (fun kq v6 v7 w' => ∃ (x6_1 : List (S94)) (x7_1 : Int) (x691001_1 : Int) (x691002_1 : Int), v7 = .int .i64 x7_1 ∧ Aside0 (spec_R8Plan.l0 kq x6_1 x7_1 l1_0 l1_1 l1_2 a1_3 a1_4 t687 x691001_1 x691002_1 = some r) ∧ Aside0 (kq ≤ k) ∧ Aside0 (Kd.S k94 94 w' w.heap.size (fun _ => True) v6 x6_1) ∧ Aside0 (w'.heap[gb686]? = some (.cells #[(.slice A1_0 l1_0.length c1_0), (.slice A1_1 l1_1.length c1_1), (.slice A1_2 l1_2.length c1_2), .int .i64 a1_3, .int .i64 a1_4] 64 (0, 0))) ∧ Aside0 (IsS168 w w' g690 t687 x691001_1 x691002_1) ∧ Aside0 (Below w.heap.size w w'))
 case atStart => exact ⟨(y691), (0), (t688), (t689), (by first | rfl | (simp; done) | (simp [*]; done) | (simp [Int.tdiv_eq_ediv_of_nonneg, *]; done)), H', ⟨Nat.le_refl _⟩, ⟨by (with_reducible repeat (first | apply Kd.S_alloc | apply Kd.S_drewN | apply Kd.S_drew)); exact HO693.out⟩, ⟨by (with_reducible repeat (first | refine blk_drewN ?_ _ | refine blk_drew ?_ | refine blk_alloc ?_ _)); exact BK686.out⟩, ⟨by repeat (first | (with_reducible first | exact HI690.out | apply IsS168.alloc | apply IsS168.drewN | apply IsS168.drew | apply IsS168.set_1 | apply IsS168.set_2 | refine IsS168.far ?_ NB690_686.out _) | exact HI690.out)⟩, ⟨by repeat (first | (with_reducible first | exact HB.out | apply below_alloc | apply pw_below_drewN | apply below_drew1 | refine below_set ?_ (IsS168.ge HI690.out) | refine below_set ?_ GE686.out) | exact HB.out)⟩⟩
 case round =>
  clear H'
  try clear c1
  try clear p2
  try clear c4
  try clear c7
  obtain ⟨x6_1, x7_1, x691001_1, x691002_1, rfl, HA, HK1, HO_6, BK686, HI690, HB⟩ := hrel
  cases gk with
  | zero => exact absurd HA.out (by simp [spec_R8Plan.l0])
  | succ k1 =>
   have H := HA.out
   clear HA
   simp only [spec_R8Plan.l0] at H
   by_cases c8 : x7_1 < (l1_2.length : Int)
   ·rw [if_pos c8] at H
    have c8b0 : decide (x7_1 < (l1_2.length : Int)) = true := decide_eq_true c8
    clear c8
    replace H := Option.bind_eq_some_iff.mp H
    obtain ⟨⟨t694, t695, t696⟩, A90, H⟩ := H
    replace H : (if t694 = true then (spec_R8Plan.l0 k1 x6_1 (wrap64 (x7_1 + 1)) l1_0 l1_1 l1_2 a1_3 a1_4 t687 t695 t696) else (spec_R8Plan.l1 k1 x6_1 x7_1 (([] : List Int)) 0 l1_0 l1_1 l1_2 a1_3 a1_4 t687 t695 t696)) = some r := H
    have A9 := Aside0.mk A90
    clear A90
    by_cases c10 : t694 = true
    ·subst c10
     have H1 : (spec_R8Plan.l0 k1 x6_1 (wrap64 (x7_1 + 1)) l1_0 l1_1 l1_2 a1_3 a1_4 t687 t695 t696) = some r := by rw [if_pos rfl] at H; exact H
     clear H
     have H := H1
     clear H1
     have H' := Aside0.mk H
     clear H
     have hnb11 := NB686_690.out
     have hnc11 := NB690_686.out
     have hcz12_0 : wr.cell? ⟨gb686, 0, none⟩ = some (.slice A1_0 l1_0.length c1_0) := (blk_cell BK686.out 0).trans rfl
     have hcz12_1 : wr.cell? ⟨gb686, 1, none⟩ = some (.slice A1_1 l1_1.length c1_1) := (blk_cell BK686.out 1).trans rfl
     have hcz12_2 : wr.cell? ⟨gb686, 2, none⟩ = some (.slice A1_2 l1_2.length c1_2) := (blk_cell BK686.out 2).trans rfl
     have hcz12_3 : wr.cell? ⟨gb686, 3, none⟩ = some (.int .i64 a1_3) := (blk_cell BK686.out 3).trans rfl
     have hcz12_4 : wr.cell? ⟨gb686, 4, none⟩ = some (.int .i64 a1_4) := (blk_cell BK686.out 4).trans rfl
     have hfz12_0 := blk_frozen BK686.out 0
     have hfz12_1 := blk_frozen BK686.out 1
     have hfz12_2 := blk_frozen BK686.out 2
     have hfz12_3 := blk_frozen BK686.out 3
     have hfz12_4 := blk_frozen BK686.out 4
     go_wp2_with (first | ((with_reducible refine gate_callee (f := 103) rfl ?_); refine goesL_ (some 21) rfl rfl Try.func103 (by kernel_rfl) rfl #[.pointer (some ⟨g690, 0, none⟩), .int .i64 4] rfl (by (try simp only [List.map_toArray, List.map_cons, List.map_nil]); first | done | rfl | (simp only [List.length_drop, List.length_take]; rfl)) ?_; (with_reducible refine (spec_l00Src_one.calls g690 t687 x691001_1 x691002_1 4 true t695 t696 w _ ?side1 ?side2 A9.out).mono ?_); (case side1 => repeat (first | (with_reducible first | exact HI690.out | apply IsS168.alloc | apply IsS168.drewN | apply IsS168.drew | apply IsS168.set_1 | apply IsS168.set_2 | refine IsS168.far ?_ NB690_686.out _) | exact HI690.out)); (case side2 => repeat (first | (with_reducible first | exact HB.out | apply below_alloc | apply pw_below_drewN | apply below_drew1 | refine below_set ?_ (IsS168.ge HI690.out) | refine below_set ?_ GE686.out) | exact HB.out)); rintro e w13 ⟨rfl, hi, hb, hk⟩; refine ⟨_, rfl, ?_⟩; have n0_ := Aside0.mk (Kd.S_mono (Kd.S_keep (IsS168.apartS (show IsS168 w _ g690 t687 x691001_1 x691002_1 from by repeat (first | (with_reducible first | exact HI690.out | apply IsS168.alloc | apply IsS168.drewN | apply IsS168.drew | apply IsS168.set_1 | apply IsS168.set_2 | refine IsS168.far ?_ NB690_686.out _) | exact HI690.out)) (by (with_reducible repeat (first | apply Kd.S_alloc | apply Kd.S_drewN | apply Kd.S_drew)); exact HO_6.out) (by decide)) hk (fun _ h => h.2)) (fun _ h => h.1)); have n1_ := Aside0.mk (KeepBut.blk hk (g' := gb686) (o := .cells #[.slice A1_0 l1_0.length c1_0, .slice A1_1 l1_1.length c1_1, .slice A1_2 l1_2.length c1_2, .int .i64 a1_3, .int .i64 a1_4] 64 (0, 0)) (by (with_reducible repeat (first | refine blk_drewN ?_ _ | refine blk_drew ?_ | refine blk_alloc ?_ _)); exact BK686.out) NB686_690.out (by simp)); have n2_ := Aside0.mk (hb); have n3_ := Aside0.mk (hi); clear HO_6; clear BK686; clear HB; clear HI690; have HO_6 := n0_; have BK686 := n1_; have HB := n2_; have HI690 := n3_; clear n0_ n1_ n2_ n3_; (try clear hb); (try clear hb2); (try clear hk); (try clear hi)))
     go_roundg k1
     case measure => have := HK1.out; omega
     case rel => exact ⟨(x6_1), (wrap64 (x7_1 + 1)), (t695), (t696), (by first | rfl | (simp; done) | (simp [*]; done) | (simp [Int.tdiv_eq_ediv_of_nonneg, *]; done)), H', ⟨by have := HK1.out; omega⟩, ⟨by (with_reducible repeat (first | apply Kd.S_alloc | apply Kd.S_drewN | apply Kd.S_drew)); exact HO_6.out⟩, ⟨by (with_reducible repeat (first | refine blk_drewN ?_ _ | refine blk_drew ?_ | refine blk_alloc ?_ _)); exact BK686.out⟩, ⟨by repeat (first | (with_reducible first | exact HI690.out | apply IsS168.alloc | apply IsS168.drewN | apply IsS168.drew | apply IsS168.set_1 | apply IsS168.set_2 | refine IsS168.far ?_ NB690_686.out _) | exact HI690.out)⟩, ⟨by repeat (first | (with_reducible first | exact HB.out | apply below_alloc | apply pw_below_drewN | apply below_drew1 | refine below_set ?_ (IsS168.ge HI690.out) | refine below_set ?_ GE686.out) | exact HB.out)⟩⟩
    ·replace c10 := Bool.eq_false_iff.mpr c10
     subst c10
     have H1 : (spec_R8Plan.l1 k1 x6_1 x7_1 (([] : List Int)) 0 l1_0 l1_1 l1_2 a1_3 a1_4 t687 t695 t696) = some r := by rw [if_neg (show ¬ (false = true) by decide)] at H; exact H
     clear H
     have H := H1
     clear H1
     obtain ⟨y697, hy697⟩ : ∃ y_ : List Int, y_ = (([] : List Int)) := ⟨_, rfl⟩
     replace H : (spec_R8Plan.l1 k1 x6_1 x7_1 y697 0 l1_0 l1_1 l1_2 a1_3 a1_4 t687 t695 t696) = some r := by first | (rw [hy697]; with_reducible exact H) | (have H2_ := (Option.bind_some _ _).symm.trans H; rw [hy697]; with_reducible exact H2_) | (have H2_ := (Option.bind_some _ _).symm.trans H; with_reducible exact H2_) | with_reducible exact H | (rw [hy697]; exact H) | exact H
     have Ny697 := Aside0.mk hy697
     clear hy697
     have H' := Aside0.mk H
     clear H
     have hnb14 := NB686_690.out
     have hnc14 := NB690_686.out
     have hcz15_0 : wr.cell? ⟨gb686, 0, none⟩ = some (.slice A1_0 l1_0.length c1_0) := (blk_cell BK686.out 0).trans rfl
     have hcz15_1 : wr.cell? ⟨gb686, 1, none⟩ = some (.slice A1_1 l1_1.length c1_1) := (blk_cell BK686.out 1).trans rfl
     have hcz15_2 : wr.cell? ⟨gb686, 2, none⟩ = some (.slice A1_2 l1_2.length c1_2) := (blk_cell BK686.out 2).trans rfl
     have hcz15_3 : wr.cell? ⟨gb686, 3, none⟩ = some (.int .i64 a1_3) := (blk_cell BK686.out 3).trans rfl
     have hcz15_4 : wr.cell? ⟨gb686, 4, none⟩ = some (.int .i64 a1_4) := (blk_cell BK686.out 4).trans rfl
     have hfz15_0 := blk_frozen BK686.out 0
     have hfz15_1 := blk_frozen BK686.out 1
     have hfz15_2 := blk_frozen BK686.out 2
     have hfz15_3 := blk_frozen BK686.out 3
     have hfz15_4 := blk_frozen BK686.out 4
     go_wp2_with (first | ((with_reducible refine gate_callee (f := 103) rfl ?_); refine goesL_ (some 21) rfl rfl Try.func103 (by kernel_rfl) rfl #[.pointer (some ⟨g690, 0, none⟩), .int .i64 4] rfl (by (try simp only [List.map_toArray, List.map_cons, List.map_nil]); first | done | rfl | (simp only [List.length_drop, List.length_take]; rfl)) ?_; (with_reducible refine (spec_l00Src_one.calls g690 t687 x691001_1 x691002_1 4 false t695 t696 w _ ?side1 ?side2 A9.out).mono ?_); (case side1 => repeat (first | (with_reducible first | exact HI690.out | apply IsS168.alloc | apply IsS168.drewN | apply IsS168.drew | apply IsS168.set_1 | apply IsS168.set_2 | refine IsS168.far ?_ NB690_686.out _) | exact HI690.out)); (case side2 => repeat (first | (with_reducible first | exact HB.out | apply below_alloc | apply pw_below_drewN | apply below_drew1 | refine below_set ?_ (IsS168.ge HI690.out) | refine below_set ?_ GE686.out) | exact HB.out)); rintro e w16 ⟨rfl, hi, hb, hk⟩; refine ⟨_, rfl, ?_⟩; have n0_ := Aside0.mk (Kd.S_mono (Kd.S_keep (IsS168.apartS (show IsS168 w _ g690 t687 x691001_1 x691002_1 from by repeat (first | (with_reducible first | exact HI690.out | apply IsS168.alloc | apply IsS168.drewN | apply IsS168.drew | apply IsS168.set_1 | apply IsS168.set_2 | refine IsS168.far ?_ NB690_686.out _) | exact HI690.out)) (by (with_reducible repeat (first | apply Kd.S_alloc | apply Kd.S_drewN | apply Kd.S_drew)); exact HO_6.out) (by decide)) hk (fun _ h => h.2)) (fun _ h => h.1)); have n1_ := Aside0.mk (KeepBut.blk hk (g' := gb686) (o := .cells #[.slice A1_0 l1_0.length c1_0, .slice A1_1 l1_1.length c1_1, .slice A1_2 l1_2.length c1_2, .int .i64 a1_3, .int .i64 a1_4] 64 (0, 0)) (by (with_reducible repeat (first | refine blk_drewN ?_ _ | refine blk_drew ?_ | refine blk_alloc ?_ _)); exact BK686.out) NB686_690.out (by simp)); have n2_ := Aside0.mk (hb); have n3_ := Aside0.mk (hi); clear HO_6; clear BK686; clear HB; clear HI690; have HO_6 := n0_; have BK686 := n1_; have HB := n2_; have HI690 := n3_; clear n0_ n1_ n2_ n3_; (try clear hb); (try clear hb2); (try clear hk); (try clear hi)) | ((with_reducible refine gate_dst (N := 22) rfl ?_); refine Kd.R_lit (Kd.int .i64) _ 2 ?hg (N := 22) ?hd (xs := ([] : List Int)) (inner := []) (ok := fun _ => True) (okp := fun _ => True) ?hr ?hp (fun _ hk => hk) trivial (Below.refl _ _) (Nat.le_refl _) (by simp) ?_; (case hd => rfl); (case hg => rfl); (case hr => first | (go_simp; done) | (go_simp; rfl)); (case hp => exact (Reps.none _ _)); intro v698 w17 ho18 hb hg_ hnew_; clear hg_ hnew_; (first | rw [← Ny697.out] at ho18 | (simp only [Int.reduceToNat] at ho18; rw [← Ny697.out] at ho18)); have n0_ := Aside0.mk (Kd.S_elder' (by (with_reducible repeat (first | apply Kd.S_alloc | apply Kd.S_drewN | apply Kd.S_drew)); exact HO_6.out) (Kd.R_base ho18) hb); have n1_ := Aside0.mk (Kd.R_lower ho18 (below_size (by repeat (first | (with_reducible first | exact HB.out | apply below_alloc | apply pw_below_drewN | apply below_drew1 | refine below_set ?_ (IsS168.ge HI690.out) | refine below_set ?_ GE686.out) | exact HB.out)))); have n2_ := Aside0.mk (blk_below (g := gb686) (o := .cells #[.slice A1_0 l1_0.length c1_0, .slice A1_1 l1_1.length c1_1, .slice A1_2 l1_2.length c1_2, .int .i64 a1_3, .int .i64 a1_4] 64 (0, 0)) (by (with_reducible repeat (first | refine blk_drewN ?_ _ | refine blk_drew ?_ | refine blk_alloc ?_ _)); exact BK686.out) hb); have n3_ := Aside0.mk (IsS168.below (by repeat (first | (with_reducible first | exact HI690.out | apply IsS168.alloc | apply IsS168.drewN | apply IsS168.drew | apply IsS168.set_1 | apply IsS168.set_2 | refine IsS168.far ?_ NB690_686.out _) | exact HI690.out)) hb); have n4_ := Aside0.mk (below_step (by repeat (first | (with_reducible first | exact HB.out | apply below_alloc | apply pw_below_drewN | apply below_drew1 | refine below_set ?_ (IsS168.ge HI690.out) | refine below_set ?_ GE686.out) | exact HB.out)) hb); clear HO_6; clear BK686; clear HI690; clear HB; have HO_6 := n0_; have HO699 := n1_; have BK686 := n2_; have HI690 := n3_; have HB := n4_; clear n0_ n1_ n2_ n3_ n4_; clear hb ho18))
     go_loopg [8, 9] k1 (fun kq v8 v9 w' => ∃ (x8_2 : List Int) (x9_2 : Int) (x691001_2 : Int) (x691002_2 : Int), v9 = .int .i64 x9_2 ∧ Aside0 (spec_R8Plan.l1 kq x6_1 x7_1 x8_2 x9_2 l1_0 l1_1 l1_2 a1_3 a1_4 t687 x691001_2 x691002_2 = some r) ∧ Aside0 (kq ≤ k1) ∧ Aside0 (Kd.S k94 94 w' w.heap.size (fun k_ => some k_ ≠ (v8 : Value).ownBlock) u6 x6_1) ∧ Aside0 (Kd.R (Kd.int .i64) 2 w' w.heap.size (fun _ => True) v8 x8_2) ∧ Aside0 (w'.heap[gb686]? = some (.cells #[(.slice A1_0 l1_0.length c1_0), (.slice A1_1 l1_1.length c1_1), (.slice A1_2 l1_2.length c1_2), .int .i64 a1_3, .int .i64 a1_4] 64 (0, 0))) ∧ Aside0 (IsS168 w w' g690 t687 x691001_2 x691002_2) ∧ Aside0 (Below w.heap.size w w'))
     case atStart => exact ⟨(y697), (0), (t695), (t696), (by first | rfl | (simp; done) | (simp [*]; done) | (simp [Int.tdiv_eq_ediv_of_nonneg, *]; done)), H', ⟨Nat.le_refl _⟩, ⟨by (with_reducible repeat (first | apply Kd.S_alloc | apply Kd.S_drewN | apply Kd.S_drew)); exact Kd.S_mono HO_6.out (fun _ hk => hk.2)⟩, ⟨by (with_reducible repeat (first | apply Kd.R_alloc | apply Kd.R_drewN | apply Kd.R_drew)); exact HO699.out⟩, ⟨by (with_reducible repeat (first | refine blk_drewN ?_ _ | refine blk_drew ?_ | refine blk_alloc ?_ _)); exact BK686.out⟩, ⟨by repeat (first | (with_reducible first | exact HI690.out | apply IsS168.alloc | apply IsS168.drewN | apply IsS168.drew | apply IsS168.set_1 | apply IsS168.set_2 | refine IsS168.far ?_ NB690_686.out _) | exact HI690.out)⟩, ⟨by repeat (first | (with_reducible first | exact HB.out | apply below_alloc | apply pw_below_drewN | apply below_drew1 | refine below_set ?_ (IsS168.ge HI690.out) | refine below_set ?_ GE686.out) | exact HB.out)⟩⟩
     case round =>
      clear H'
      try clear c1
      try clear p2
      try clear c4
      try clear p6
      try clear c7
      try clear c8
      try clear c8b0
      try clear c10
      try clear c11
      try clear c14
      try clear hcz12_0
      try clear hcz12_1
      try clear hcz12_2
      try clear hcz12_3
      try clear hcz12_4
      try clear hcz15_0
      try clear hcz15_1
      try clear hcz15_2
      try clear hcz15_3
      try clear hcz15_4
      try clear hfz12_0
      try clear hfz12_1
      try clear hfz12_2
      try clear hfz12_3
      try clear hfz12_4
      try clear hfz15_0
      try clear hfz15_1
      try clear hfz15_2
      try clear hfz15_3
      try clear hfz15_4
      try clear p2
      obtain ⟨x8_2, x9_2, x691001_2, x691002_2, rfl, HA, HK2, HO_6, HO_8, BK686, HI690, HB⟩ := hrel
      cases gk with
      | zero => exact absurd HA.out (by simp [spec_R8Plan.l1])
      | succ k2 =>
       have H := HA.out
       clear HA
       simp only [spec_R8Plan.l1] at H
       by_cases c19 : x9_2 < (l1_0.length : Int)
       ·rw [if_pos c19] at H
        have c19b0 : decide (x9_2 < (l1_0.length : Int)) = true := decide_eq_true c19
        clear c19
        replace H := Option.bind_eq_some_iff.mp H
        obtain ⟨⟨t700, t701, t702⟩, A200, H⟩ := H
        replace H : (if t700 = true then (spec_R8Plan.l1 k2 x6_1 x7_1 x8_2 (wrap64 (x9_2 + 1)) l1_0 l1_1 l1_2 a1_3 a1_4 t687 t701 t702) else (if x8_2.length < 17592186044416 then (spec_R8Plan.l1 k2 x6_1 x7_1 (x8_2 ++ [x9_2]) (wrap64 (x9_2 + 1)) l1_0 l1_1 l1_2 a1_3 a1_4 t687 t701 t702) else (none))) = some r := H
        have A20 := Aside0.mk A200
        clear A200
        by_cases c21 : t700 = true
        ·subst c21
         have H1 : (spec_R8Plan.l1 k2 x6_1 x7_1 x8_2 (wrap64 (x9_2 + 1)) l1_0 l1_1 l1_2 a1_3 a1_4 t687 t701 t702) = some r := by rw [if_pos rfl] at H; exact H
         clear H
         have H := H1
         clear H1
         have H' := Aside0.mk H
         clear H
         have hnb22 := NB686_690.out
         have hnc22 := NB690_686.out
         have hcz23_0 : wr.cell? ⟨gb686, 0, none⟩ = some (.slice A1_0 l1_0.length c1_0) := (blk_cell BK686.out 0).trans rfl
         have hcz23_1 : wr.cell? ⟨gb686, 1, none⟩ = some (.slice A1_1 l1_1.length c1_1) := (blk_cell BK686.out 1).trans rfl
         have hcz23_2 : wr.cell? ⟨gb686, 2, none⟩ = some (.slice A1_2 l1_2.length c1_2) := (blk_cell BK686.out 2).trans rfl
         have hcz23_3 : wr.cell? ⟨gb686, 3, none⟩ = some (.int .i64 a1_3) := (blk_cell BK686.out 3).trans rfl
         have hcz23_4 : wr.cell? ⟨gb686, 4, none⟩ = some (.int .i64 a1_4) := (blk_cell BK686.out 4).trans rfl
         have hfz23_0 := blk_frozen BK686.out 0
         have hfz23_1 := blk_frozen BK686.out 1
         have hfz23_2 := blk_frozen BK686.out 2
         have hfz23_3 := blk_frozen BK686.out 3
         have hfz23_4 := blk_frozen BK686.out 4
         go_wp2_with (first | ((with_reducible refine gate_callee (f := 103) rfl ?_); refine goesL_ (some 31) rfl rfl Try.func103 (by kernel_rfl) rfl #[.pointer (some ⟨g690, 0, none⟩), .int .i64 3] rfl (by (try simp only [List.map_toArray, List.map_cons, List.map_nil]); first | done | rfl | (simp only [List.length_drop, List.length_take]; rfl)) ?_; (with_reducible refine (spec_l00Src_one.calls g690 t687 x691001_2 x691002_2 3 true t701 t702 w _ ?side1 ?side2 A20.out).mono ?_); (case side1 => repeat (first | (with_reducible first | exact HI690.out | apply IsS168.alloc | apply IsS168.drewN | apply IsS168.drew | apply IsS168.set_1 | apply IsS168.set_2 | refine IsS168.far ?_ NB690_686.out _) | exact HI690.out)); (case side2 => repeat (first | (with_reducible first | exact HB.out | apply below_alloc | apply pw_below_drewN | apply below_drew1 | refine below_set ?_ (IsS168.ge HI690.out) | refine below_set ?_ GE686.out) | exact HB.out)); rintro e w24 ⟨rfl, hi, hb, hk⟩; refine ⟨_, rfl, ?_⟩; have n0_ := Aside0.mk (Kd.S_mono (Kd.S_keep (IsS168.apartS (show IsS168 w _ g690 t687 x691001_2 x691002_2 from by repeat (first | (with_reducible first | exact HI690.out | apply IsS168.alloc | apply IsS168.drewN | apply IsS168.drew | apply IsS168.set_1 | apply IsS168.set_2 | refine IsS168.far ?_ NB690_686.out _) | exact HI690.out)) (by (with_reducible repeat (first | apply Kd.S_alloc | apply Kd.S_drewN | apply Kd.S_drew)); exact HO_6.out) (by decide)) hk (fun _ h => h.2)) (fun _ h => h.1)); have n1_ := Aside0.mk (Kd.R_mono (Kd.R_keep (IsS168.apart (show IsS168 w _ g690 t687 x691001_2 x691002_2 from by repeat (first | (with_reducible first | exact HI690.out | apply IsS168.alloc | apply IsS168.drewN | apply IsS168.drew | apply IsS168.set_1 | apply IsS168.set_2 | refine IsS168.far ?_ NB690_686.out _) | exact HI690.out)) (by (with_reducible repeat (first | apply Kd.R_alloc | apply Kd.R_drewN | apply Kd.R_drew)); exact HO_8.out) (by decide)) hk (fun _ h => h.2)) (fun _ h => h.1)); have n2_ := Aside0.mk (KeepBut.blk hk (g' := gb686) (o := .cells #[.slice A1_0 l1_0.length c1_0, .slice A1_1 l1_1.length c1_1, .slice A1_2 l1_2.length c1_2, .int .i64 a1_3, .int .i64 a1_4] 64 (0, 0)) (by (with_reducible repeat (first | refine blk_drewN ?_ _ | refine blk_drew ?_ | refine blk_alloc ?_ _)); exact BK686.out) NB686_690.out (by simp)); have n3_ := Aside0.mk (hb); have n4_ := Aside0.mk (hi); clear HO_6; clear HO_8; clear BK686; clear HB; clear HI690; have HO_6 := n0_; have HO_8 := n1_; have BK686 := n2_; have HB := n3_; have HI690 := n4_; clear n0_ n1_ n2_ n3_ n4_; (try clear hb); (try clear hb2); (try clear hk); (try clear hi)))
         go_roundg k2
         case measure => have := HK1.out; have := HK2.out; omega
         case rel => exact ⟨(x8_2), (wrap64 (x9_2 + 1)), (t701), (t702), (by first | rfl | (simp; done) | (simp [*]; done) | (simp [Int.tdiv_eq_ediv_of_nonneg, *]; done)), H', ⟨by have := HK1.out; have := HK2.out; omega⟩, ⟨by (with_reducible repeat (first | apply Kd.S_alloc | apply Kd.S_drewN | apply Kd.S_drew)); exact HO_6.out⟩, ⟨by (with_reducible repeat (first | apply Kd.R_alloc | apply Kd.R_drewN | apply Kd.R_drew)); exact HO_8.out⟩, ⟨by (with_reducible repeat (first | refine blk_drewN ?_ _ | refine blk_drew ?_ | refine blk_alloc ?_ _)); exact BK686.out⟩, ⟨by repeat (first | (with_reducible first | exact HI690.out | apply IsS168.alloc | apply IsS168.drewN | apply IsS168.drew | apply IsS168.set_1 | apply IsS168.set_2 | refine IsS168.far ?_ NB690_686.out _) | exact HI690.out)⟩, ⟨by repeat (first | (with_reducible first | exact HB.out | apply below_alloc | apply pw_below_drewN | apply below_drew1 | refine below_set ?_ (IsS168.ge HI690.out) | refine below_set ?_ GE686.out) | exact HB.out)⟩⟩
        ·replace c21 := Bool.eq_false_iff.mpr c21
         subst c21
         have H1 : (if x8_2.length < 17592186044416 then (spec_R8Plan.l1 k2 x6_1 x7_1 (x8_2 ++ [x9_2]) (wrap64 (x9_2 + 1)) l1_0 l1_1 l1_2 a1_3 a1_4 t687 t701 t702) else (none)) = some r := by rw [if_neg (show ¬ (false = true) by decide)] at H; exact H
         clear H
         have H := H1
         clear H1
         by_cases c25 : x8_2.length < 17592186044416
         ·rw [if_pos c25] at H
          have LMc25 := Aside0.mk c25
          clear c25
          obtain ⟨y703, hy703⟩ : ∃ y_ : List Int, y_ = (x8_2 ++ [x9_2]) := ⟨_, rfl⟩
          replace H : (spec_R8Plan.l1 k2 x6_1 x7_1 y703 (wrap64 (x9_2 + 1)) l1_0 l1_1 l1_2 a1_3 a1_4 t687 t701 t702) = some r := by first | (rw [hy703]; with_reducible exact H) | (have H2_ := (Option.bind_some _ _).symm.trans H; rw [hy703]; with_reducible exact H2_) | (have H2_ := (Option.bind_some _ _).symm.trans H; with_reducible exact H2_) | with_reducible exact H | (rw [hy703]; exact H) | exact H
          have Ny703 := Aside0.mk hy703
          clear hy703
          have H' := Aside0.mk H
          clear H
          have hnb26 := NB686_690.out
          have hnc26 := NB690_686.out
          have hcz27_0 : wr.cell? ⟨gb686, 0, none⟩ = some (.slice A1_0 l1_0.length c1_0) := (blk_cell BK686.out 0).trans rfl
          have hcz27_1 : wr.cell? ⟨gb686, 1, none⟩ = some (.slice A1_1 l1_1.length c1_1) := (blk_cell BK686.out 1).trans rfl
          have hcz27_2 : wr.cell? ⟨gb686, 2, none⟩ = some (.slice A1_2 l1_2.length c1_2) := (blk_cell BK686.out 2).trans rfl
          have hcz27_3 : wr.cell? ⟨gb686, 3, none⟩ = some (.int .i64 a1_3) := (blk_cell BK686.out 3).trans rfl
          have hcz27_4 : wr.cell? ⟨gb686, 4, none⟩ = some (.int .i64 a1_4) := (blk_cell BK686.out 4).trans rfl
          have hfz27_0 := blk_frozen BK686.out 0
          have hfz27_1 := blk_frozen BK686.out 1
          have hfz27_2 := blk_frozen BK686.out 2
          have hfz27_3 := blk_frozen BK686.out 3
          have hfz27_4 := blk_frozen BK686.out 4
          go_wp2_with (first | ((with_reducible refine gate_callee (f := 103) rfl ?_); refine goesL_ (some 31) rfl rfl Try.func103 (by kernel_rfl) rfl #[.pointer (some ⟨g690, 0, none⟩), .int .i64 3] rfl (by (try simp only [List.map_toArray, List.map_cons, List.map_nil]); first | done | rfl | (simp only [List.length_drop, List.length_take]; rfl)) ?_; (with_reducible refine (spec_l00Src_one.calls g690 t687 x691001_2 x691002_2 3 false t701 t702 w _ ?side1 ?side2 A20.out).mono ?_); (case side1 => repeat (first | (with_reducible first | exact HI690.out | apply IsS168.alloc | apply IsS168.drewN | apply IsS168.drew | apply IsS168.set_1 | apply IsS168.set_2 | refine IsS168.far ?_ NB690_686.out _) | exact HI690.out)); (case side2 => repeat (first | (with_reducible first | exact HB.out | apply below_alloc | apply pw_below_drewN | apply below_drew1 | refine below_set ?_ (IsS168.ge HI690.out) | refine below_set ?_ GE686.out) | exact HB.out)); rintro e w28 ⟨rfl, hi, hb, hk⟩; refine ⟨_, rfl, ?_⟩; have n0_ := Aside0.mk (Kd.S_mono (Kd.S_keep (IsS168.apartS (show IsS168 w _ g690 t687 x691001_2 x691002_2 from by repeat (first | (with_reducible first | exact HI690.out | apply IsS168.alloc | apply IsS168.drewN | apply IsS168.drew | apply IsS168.set_1 | apply IsS168.set_2 | refine IsS168.far ?_ NB690_686.out _) | exact HI690.out)) (by (with_reducible repeat (first | apply Kd.S_alloc | apply Kd.S_drewN | apply Kd.S_drew)); exact HO_6.out) (by decide)) hk (fun _ h => h.2)) (fun _ h => h.1)); have n1_ := Aside0.mk (Kd.R_mono (Kd.R_keep (IsS168.apart (show IsS168 w _ g690 t687 x691001_2 x691002_2 from by repeat (first | (with_reducible first | exact HI690.out | apply IsS168.alloc | apply IsS168.drewN | apply IsS168.drew | apply IsS168.set_1 | apply IsS168.set_2 | refine IsS168.far ?_ NB690_686.out _) | exact HI690.out)) (by (with_reducible repeat (first | apply Kd.R_alloc | apply Kd.R_drewN | apply Kd.R_drew)); exact HO_8.out) (by decide)) hk (fun _ h => h.2)) (fun _ h => h.1)); have n2_ := Aside0.mk (KeepBut.blk hk (g' := gb686) (o := .cells #[.slice A1_0 l1_0.length c1_0, .slice A1_1 l1_1.length c1_1, .slice A1_2 l1_2.length c1_2, .int .i64 a1_3, .int .i64 a1_4] 64 (0, 0)) (by (with_reducible repeat (first | refine blk_drewN ?_ _ | refine blk_drew ?_ | refine blk_alloc ?_ _)); exact BK686.out) NB686_690.out (by simp)); have n3_ := Aside0.mk (hb); have n4_ := Aside0.mk (hi); clear HO_6; clear HO_8; clear BK686; clear HB; clear HI690; have HO_6 := n0_; have HO_8 := n1_; have BK686 := n2_; have HB := n3_; have HI690 := n4_; clear n0_ n1_ n2_ n3_ n4_; (try clear hb); (try clear hb2); (try clear hk); (try clear hi)) | ((with_reducible refine gate_builtin (b := .append) (xs := #[.tmp 33, .tmp 35]) rfl ?_); at_builtin; refine Kd.R_append (Kd.int .i64) (w0 := w) w.heap.size rfl (.tmp 33) (.tmp 35) 24 2 (.int .i64 0) 8 rfl Try.underlying24 info2 rfl (by decide) (by omega) u8 x8_2 x9_2 [.int .i64 x9_2] (fun _ => True) (fun _ => False) rfl rfl ?aP (fun _ hk => hk.elim) ?aF ?aO ?aB ?aS ?aL ?_; (case aP => exact rfl); (case aB => exact (by repeat (first | (with_reducible first | exact HB.out | apply below_alloc | apply pw_below_drewN | apply below_drew1 | refine below_set ?_ (IsS168.ge HI690.out) | refine below_set ?_ GE686.out) | exact HB.out))); (case aF => exact (fun _ _ => trivial)); (case aO => exact (by (with_reducible repeat (first | apply Kd.R_alloc | apply Kd.R_drewN | apply Kd.R_drew)); exact HO_8.out)); (case aS => exact (below_size (by repeat (first | (with_reducible first | exact HB.out | apply below_alloc | apply pw_below_drewN | apply below_drew1 | refine below_set ?_ (IsS168.ge HI690.out) | refine below_set ?_ GE686.out) | exact HB.out)))); (case aL => have := LMc25.out; omega); intro v704 w29 ho hb hg hat; rw [← Ny703.out] at ho; have n0_ := Aside0.mk (Kd.S_after (ok := (fun _ => True)) (by (with_reducible repeat (first | apply Kd.S_alloc | apply Kd.S_drewN | apply Kd.S_drew)); exact Kd.S_mono HO_6.out (fun _ hk => ⟨trivial, hk⟩)) hg hat); have n1_ := Aside0.mk (blk_grown (g := gb686) (o := .cells #[.slice A1_0 l1_0.length c1_0, .slice A1_1 l1_1.length c1_1, .slice A1_2 l1_2.length c1_2, .int .i64 a1_3, .int .i64 a1_4] 64 (0, 0)) (by (with_reducible repeat (first | refine blk_drewN ?_ _ | refine blk_drew ?_ | refine blk_alloc ?_ _)); exact BK686.out) hg (Kd.R_ne HO_8.out BK686.out (by decide))); have n2_ := Aside0.mk (IsS168.grown (by repeat (first | (with_reducible first | exact HI690.out | apply IsS168.alloc | apply IsS168.drewN | apply IsS168.drew | apply IsS168.set_1 | apply IsS168.set_2 | refine IsS168.far ?_ NB690_686.out _) | exact HI690.out)) hg (IsS168.own_ne HI690.out HO_8.out (by decide))); have n3_ := Aside0.mk (hb); have n4_ := Aside0.mk (ho); clear HO_6; clear BK686; clear HI690; clear HB; clear HO_8; have HO_6 := n0_; have BK686 := n1_; have HI690 := n2_; have HB := n3_; have HO705 := n4_; clear n0_ n1_ n2_ n3_ n4_; clear ho hb hg hat))
          go_roundg k2
          case measure => have := HK1.out; have := HK2.out; omega
          case rel => exact ⟨(y703), (wrap64 (x9_2 + 1)), (t701), (t702), (by first | rfl | (simp; done) | (simp [*]; done) | (simp [Int.tdiv_eq_ediv_of_nonneg, *]; done)), H', ⟨by have := HK1.out; have := HK2.out; omega⟩, ⟨by (with_reducible repeat (first | apply Kd.S_alloc | apply Kd.S_drewN | apply Kd.S_drew)); exact Kd.S_mono HO_6.out (fun _ hk => hk.2)⟩, ⟨by (with_reducible repeat (first | apply Kd.R_alloc | apply Kd.R_drewN | apply Kd.R_drew)); exact HO705.out⟩, ⟨by (with_reducible repeat (first | refine blk_drewN ?_ _ | refine blk_drew ?_ | refine blk_alloc ?_ _)); exact BK686.out⟩, ⟨by repeat (first | (with_reducible first | exact HI690.out | apply IsS168.alloc | apply IsS168.drewN | apply IsS168.drew | apply IsS168.set_1 | apply IsS168.set_2 | refine IsS168.far ?_ NB690_686.out _) | exact HI690.out)⟩, ⟨by repeat (first | (with_reducible first | exact HB.out | apply below_alloc | apply pw_below_drewN | apply below_drew1 | refine below_set ?_ (IsS168.ge HI690.out) | refine below_set ?_ GE686.out) | exact HB.out)⟩⟩
         ·rw [if_neg c25] at H
          exact absurd H (by simp)
       ·rw [if_neg c19] at H
        have c19b0 : decide (x9_2 < (l1_0.length : Int)) = false := decide_eq_false c19
        clear c19
        by_cases c30 : (x8_2.length : Int) > 0
        ·rw [if_pos c30] at H
         have c30b0 : decide (0 < (x8_2.length : Int)) = true := decide_eq_true c30
         have c30b1 : decide (0 < x8_2.length) = true := decide_eq_true (by omega)
         clear c30
         by_cases c31 : 0 ≤ x7_1
         ·rw [if_pos c31] at H
          have c31b0 : decide (0 ≤ x7_1) = true := decide_eq_true c31
          clear c31
          by_cases c32 : x7_1 < (l1_2.length : Int)
          ·rw [if_pos c32] at H
           have c32b0 : decide (x7_1 < (l1_2.length : Int)) = true := decide_eq_true c32
           clear c32
           by_cases c33 : x6_1.length < 4398046511104
           ·rw [if_pos c33] at H
            have LMc33 := Aside0.mk c33
            clear c33
            obtain ⟨y707, hy707⟩ : ∃ y_ : List (S94), y_ = (x6_1 ++ [(⟨rd l1_2 x7_1, x8_2⟩ : S94)]) := ⟨_, rfl⟩
            replace H : (spec_R8Plan.l0 k2 y707 (wrap64 (x7_1 + 1)) l1_0 l1_1 l1_2 a1_3 a1_4 t687 x691001_2 x691002_2) = some r := by first | (rw [hy707]; with_reducible exact H) | (have H2_ := (Option.bind_some _ _).symm.trans H; rw [hy707]; with_reducible exact H2_) | (have H2_ := (Option.bind_some _ _).symm.trans H; with_reducible exact H2_) | with_reducible exact H | (rw [hy707]; exact H) | exact H
            have Ny707 := Aside0.mk hy707
            clear hy707
            have H' := Aside0.mk H
            clear H
            have hnb34 := NB686_690.out
            have hnc34 := NB690_686.out
            have hcz35_0 : wr.cell? ⟨gb686, 0, none⟩ = some (.slice A1_0 l1_0.length c1_0) := (blk_cell BK686.out 0).trans rfl
            have hcz35_1 : wr.cell? ⟨gb686, 1, none⟩ = some (.slice A1_1 l1_1.length c1_1) := (blk_cell BK686.out 1).trans rfl
            have hcz35_2 : wr.cell? ⟨gb686, 2, none⟩ = some (.slice A1_2 l1_2.length c1_2) := (blk_cell BK686.out 2).trans rfl
            have hcz35_3 : wr.cell? ⟨gb686, 3, none⟩ = some (.int .i64 a1_3) := (blk_cell BK686.out 3).trans rfl
            have hcz35_4 : wr.cell? ⟨gb686, 4, none⟩ = some (.int .i64 a1_4) := (blk_cell BK686.out 4).trans rfl
            have hfz35_0 := blk_frozen BK686.out 0
            have hfz35_1 := blk_frozen BK686.out 1
            have hfz35_2 := blk_frozen BK686.out 2
            have hfz35_3 := blk_frozen BK686.out 3
            have hfz35_4 := blk_frozen BK686.out 4
            obtain ⟨Ao36, co36, eo36⟩ := Kd.R_slice HO_8.out
            subst eo36
            have p706 : 0 ≤ (x7_1 : Int) := of_decide_eq_true (by first | (with_reducible assumption) | assumption)
            have q706 : x7_1 < (l1_2.length : Int) := of_decide_eq_true (by first | (with_reducible assumption) | assumption)
            obtain ⟨ad706, e706, hx706_0⟩ := Kd.at_int HR1_2.out x7_1 p706 q706
            cases e706
            replace hx706_0 := (HB.out.cell (World.block_lt_of_cell? w _ hx706_0)).trans hx706_0
            replace p706 := eq_true p706
            replace q706 := eq_true q706
            go_wp2_with (first | ((with_reducible refine gate_builtin (b := .append) (xs := #[.tmp 40, .tmp 48]) rfl ?_); at_builtin; refine Kd.S_append k94 (w0 := w) w.heap.size rfl (.tmp 40) (.tmp 48) 73 94 (.agg #[(.int .i64 0), (.slice none 0 0)]) 32 rfl Try.underlying73 info94 rfl (by decide) (by omega) u6 x6_1 (⟨rd l1_2 x7_1, x8_2⟩ : S94) [.int .i64 (rd l1_2 x7_1), .slice Ao36 x8_2.length co36] (fun _ => True) (fun k_ => some k_ = (.slice Ao36 x8_2.length co36 : Value).ownBlock) rfl rfl ?aP (fun k_ hk_ => ((Kd.R_mono (ok' := fun k_ => ((fun _ => True)) k_ ∧ some k_ ≠ (u6 : Value).ownBlock) (Kd.R_apart' (HO_8.out) (Kd.S_typed HO_6.out) (by decide)) (fun k_ hk => ⟨trivial, hk.2⟩))).1 k_ hk_.symm) ?aF ?aO ?aB ?aS ?aL ?_; (case aP => exact k94_mkM _ _ _ (⟨rd l1_2 x7_1, x8_2⟩ : S94) (Kd.R_mono (Kd.R_tight rfl (Kd.R_mono (ok' := fun k_ => ((fun _ => True)) k_ ∧ some k_ ≠ (u6 : Value).ownBlock) (Kd.R_apart' (HO_8.out) (Kd.S_typed HO_6.out) (by decide)) (fun k_ hk => ⟨trivial, hk.2⟩))) (fun _ h_ => h_))); (case aB => exact (by repeat (first | (with_reducible first | exact HB.out | apply below_alloc | apply pw_below_drewN | apply below_drew1 | refine below_set ?_ (IsS168.ge HI690.out) | refine below_set ?_ GE686.out) | exact HB.out))); (case aF => exact (fun _ _ => trivial)); (case aO => exact (by (with_reducible repeat (first | apply Kd.S_alloc | apply Kd.S_drewN | apply Kd.S_drew)); exact Kd.S_mono HO_6.out (fun k_ hk => ⟨trivial, fun e_ => hk e_⟩))); (case aS => exact (below_size (by repeat (first | (with_reducible first | exact HB.out | apply below_alloc | apply pw_below_drewN | apply below_drew1 | refine below_set ?_ (IsS168.ge HI690.out) | refine below_set ?_ GE686.out) | exact HB.out)))); (case aL => have := LMc33.out; omega); intro v708 w37 ho hb hg hat; rw [← Ny707.out] at ho; have n0_ := Aside0.mk (blk_grown (g := gb686) (o := .cells #[.slice A1_0 l1_0.length c1_0, .slice A1_1 l1_1.length c1_1, .slice (some ad706) l1_2.length c1_2, .int .i64 a1_3, .int .i64 a1_4] 64 (0, 0)) (by (with_reducible repeat (first | refine blk_drewN ?_ _ | refine blk_drew ?_ | refine blk_alloc ?_ _)); exact BK686.out) hg (Kd.S_ne HO_6.out BK686.out (by decide))); have n1_ := Aside0.mk (IsS168.grown (by repeat (first | (with_reducible first | exact HI690.out | apply IsS168.alloc | apply IsS168.drewN | apply IsS168.drew | apply IsS168.set_1 | apply IsS168.set_2 | refine IsS168.far ?_ NB690_686.out _) | exact HI690.out)) hg (IsS168.own_neS HI690.out HO_6.out (by decide))); have n2_ := Aside0.mk (hb); have n3_ := Aside0.mk (ho); clear BK686; clear HI690; clear HB; clear HO_6; clear HO_8; have BK686 := n0_; have HI690 := n1_; have HB := n2_; have HO709 := n3_; clear n0_ n1_ n2_ n3_; clear ho hb hg hat))
            go_roundg k2
            case measure => have := HK1.out; have := HK2.out; omega
            case rel => exact ⟨(y707), (wrap64 (x7_1 + 1)), (x691001_2), (x691002_2), (by first | rfl | (simp; done) | (simp [*]; done) | (simp [Int.tdiv_eq_ediv_of_nonneg, *]; done)), H', ⟨by have := HK1.out; have := HK2.out; omega⟩, ⟨by (with_reducible repeat (first | apply Kd.S_alloc | apply Kd.S_drewN | apply Kd.S_drew)); exact HO709.out⟩, ⟨by (with_reducible repeat (first | refine blk_drewN ?_ _ | refine blk_drew ?_ | refine blk_alloc ?_ _)); exact BK686.out⟩, ⟨by repeat (first | (with_reducible first | exact HI690.out | apply IsS168.alloc | apply IsS168.drewN | apply IsS168.drew | apply IsS168.set_1 | apply IsS168.set_2 | refine IsS168.far ?_ NB690_686.out _) | exact HI690.out)⟩, ⟨by repeat (first | (with_reducible first | exact HB.out | apply below_alloc | apply pw_below_drewN | apply below_drew1 | refine below_set ?_ (IsS168.ge HI690.out) | refine below_set ?_ GE686.out) | exact HB.out)⟩⟩
           ·rw [if_neg c33] at H
            exact absurd H (by simp)
          ·rw [if_neg c32] at H
           exact absurd H (by simp)
         ·rw [if_neg c31] at H
          exact absurd H (by simp)
        ·rw [if_neg c30] at H
         have c30b0 : decide (0 < (x8_2.length : Int)) = false := decide_eq_false c30
         have c30b1 : decide (0 < x8_2.length) = false := decide_eq_false (by omega)
         clear c30
         have H' := Aside0.mk H
         clear H
         have hnb38 := NB686_690.out
         have hnc38 := NB690_686.out
         have hcz39_0 : wr.cell? ⟨gb686, 0, none⟩ = some (.slice A1_0 l1_0.length c1_0) := (blk_cell BK686.out 0).trans rfl
         have hcz39_1 : wr.cell? ⟨gb686, 1, none⟩ = some (.slice A1_1 l1_1.length c1_1) := (blk_cell BK686.out 1).trans rfl
         have hcz39_2 : wr.cell? ⟨gb686, 2, none⟩ = some (.slice A1_2 l1_2.length c1_2) := (blk_cell BK686.out 2).trans rfl
         have hcz39_3 : wr.cell? ⟨gb686, 3, none⟩ = some (.int .i64 a1_3) := (blk_cell BK686.out 3).trans rfl
         have hcz39_4 : wr.cell? ⟨gb686, 4, none⟩ = some (.int .i64 a1_4) := (blk_cell BK686.out 4).trans rfl
         have hfz39_0 := blk_frozen BK686.out 0
         have hfz39_1 := blk_frozen BK686.out 1
         have hfz39_2 := blk_frozen BK686.out 2
         have hfz39_3 := blk_frozen BK686.out 3
         have hfz39_4 := blk_frozen BK686.out 4
         obtain ⟨Ao40, co40, eo40⟩ := Kd.R_slice HO_8.out
         subst eo40
         go_wp2
         go_roundg k2
         case measure => have := HK1.out; have := HK2.out; omega
         case rel => exact ⟨(x6_1), (wrap64 (x7_1 + 1)), (x691001_2), (x691002_2), (by first | rfl | (simp; done) | (simp [*]; done) | (simp [Int.tdiv_eq_ediv_of_nonneg, *]; done)), H', ⟨by have := HK1.out; have := HK2.out; omega⟩, ⟨by (with_reducible repeat (first | apply Kd.S_alloc | apply Kd.S_drewN | apply Kd.S_drew)); exact Kd.S_mono HO_6.out (fun _ hk => trivial)⟩, ⟨by (with_reducible repeat (first | refine blk_drewN ?_ _ | refine blk_drew ?_ | refine blk_alloc ?_ _)); exact BK686.out⟩, ⟨by repeat (first | (with_reducible first | exact HI690.out | apply IsS168.alloc | apply IsS168.drewN | apply IsS168.drew | apply IsS168.set_1 | apply IsS168.set_2 | refine IsS168.far ?_ NB690_686.out _) | exact HI690.out)⟩, ⟨by repeat (first | (with_reducible first | exact HB.out | apply below_alloc | apply pw_below_drewN | apply below_drew1 | refine below_set ?_ (IsS168.ge HI690.out) | refine below_set ?_ GE686.out) | exact HB.out)⟩⟩
   ·rw [if_neg c8] at H
    have c8b0 : decide (x7_1 < (l1_2.length : Int)) = false := decide_eq_false c8
    clear c8
    obtain rfl := Option.some.inj H
    have hnb41 := NB686_690.out
    have hnc41 := NB690_686.out
    have hcz42_0 : wr.cell? ⟨gb686, 0, none⟩ = some (.slice A1_0 l1_0.length c1_0) := (blk_cell BK686.out 0).trans rfl
    have hcz42_1 : wr.cell? ⟨gb686, 1, none⟩ = some (.slice A1_1 l1_1.length c1_1) := (blk_cell BK686.out 1).trans rfl
    have hcz42_2 : wr.cell? ⟨gb686, 2, none⟩ = some (.slice A1_2 l1_2.length c1_2) := (blk_cell BK686.out 2).trans rfl
    have hcz42_3 : wr.cell? ⟨gb686, 3, none⟩ = some (.int .i64 a1_3) := (blk_cell BK686.out 3).trans rfl
    have hcz42_4 : wr.cell? ⟨gb686, 4, none⟩ = some (.int .i64 a1_4) := (blk_cell BK686.out 4).trans rfl
    have hfz42_0 := blk_frozen BK686.out 0
    have hfz42_1 := blk_frozen BK686.out 1
    have hfz42_2 := blk_frozen BK686.out 2
    have hfz42_3 := blk_frozen BK686.out 3
    have hfz42_4 := blk_frozen BK686.out 4
    go_wp2
    go_ret
    exact ⟨_, by first | rfl | (simp [errW_none, errW_some] <;> rfl) | (simp [*, errW_none, errW_some] <;> rfl) | (simp [Int.tdiv_eq_ediv_of_nonneg, *]; done), by (with_reducible repeat (first | apply Kd.S_alloc | apply Kd.S_drewN | apply Kd.S_drew)); exact HO_6.out, by repeat (first | (with_reducible first | exact HB.out | apply below_alloc | apply pw_below_drewN | apply below_drew1 | refine below_set ?_ (IsS168.ge HI690.out) | refine below_set ?_ GE686.out) | exact HB.out)⟩

end Go.Proofs.Ytajndapolblhmab.P
