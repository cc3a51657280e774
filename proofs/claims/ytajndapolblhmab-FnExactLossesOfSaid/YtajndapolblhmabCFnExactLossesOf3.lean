/- What the claim of FnExactLossesOf bears, part 3: functions of the program as plain Lean functions, with proofs that the code comes to their answers, and lemmas on them. -/
import Derived.Test.YtajndapolblhmabCFnExactLossesOf0
import Derived.Test.YtajndapolblhmabCFnExactLossesOf1
import Derived.Test.YtajndapolblhmabCFnExactLossesOf2
-- Walks of this claim's functions, laid by a program of this session.
namespace Go.Proofs.Ytajndapolblhmab.P
open Go.RowKit Go.Proofs.YtajndapolblhmabW.PrintWords Go.Proofs.YtajndapolblhmabW.PrintLast Go.Proofs.YtajndapolblhmabW.PrintMore
attribute [local go_sem] max2_int min2_int max_two min_two max_three min_three max_four min_four   -- for this text's walks alone
set_option linter.unusedVariables false
set_option linter.unusedSimpArgs false

/-! ### impl_Grout_set: function 142 -/
def impl_Grout_set.f (a0_0 : Int) (a0_1 : Int) (a0_2 : Int) (a0_3 : Int) : Option (Int) := some (wrap64 (Int.tdiv (wrap64 (a0_2 * (wrap64 (100 - a0_3)))) 100))
set_option maxHeartbeats 8000000 in
set_option maxRecDepth 100000 in
theorem impl_Grout_set.calls (a0_0 : Int) (a0_1 : Int) (a0_2 : Int) (a0_3 : Int) (r : Int) (w : World) (h : impl_Grout_set.f a0_0 a0_1 a0_2 a0_3 = some r) :
    Calls Try.prog 142 #[.agg #[.int .i64 a0_0, .int .i64 a0_1, .int .i64 a0_2, .int .i64 a0_3]] w fun e w' => e = .returned (.int .i64 r) ∧ Below w.heap.size w w' := by
  have hu148 := Try.underlying148
  have HB := Aside0.mk (Below.refl w.heap.size w)
  have H : (some (wrap64 (Int.tdiv (wrap64 (a0_2 * (wrap64 (100 - a0_3)))) 100))) = some r := h
  clear h
  obtain rfl := Option.some.inj H
  go_enter Try.func142, Try.ntmps142
  go_wp2_with (first | ((with_reducible refine gate_dst (N := 1) rfl ?_); refine box_event ?hg (N := 1) ?hd (cs := #[.int .i64 a0_0, .int .i64 a0_1, .int .i64 a0_2, .int .i64 a0_3]) (t := 148) ?hr ?_; (case hd => rfl); (case hg => rfl); (case hr => first | (go_simp; done) | (go_simp; rfl)); intro gb896 hg w2 hbox hb; have n0_ := Aside0.mk (below_step (by repeat (first | (with_reducible first | exact HB.out | apply below_alloc | apply pw_below_drewN | apply below_drew1) | exact HB.out)) hb); have n1_ := Aside0.mk (hbox); have n2_ := Aside0.mk ((by rw [hg]; exact (below_size (by repeat (first | (with_reducible first | exact HB.out | apply below_alloc | apply pw_below_drewN | apply below_drew1) | exact HB.out))) : w.heap.size ≤ gb896)); have n3_ := Aside0.mk ((by rw [hg]; exact (below_size (by repeat (first | (with_reducible first | exact HB.out | apply below_alloc | apply pw_below_drewN | apply below_drew1) | exact HB.out))) : w.heap.size ≤ gb896)); clear HB; have HB := n0_; have BK896 := n1_; have GW896 := n2_; have GE896 := n3_; clear n0_ n1_ n2_ n3_; clear hb hbox hg; have hcz3_0 : w2.cell? ⟨gb896, 0, none⟩ = some (.int .i64 a0_0) := (blk_cell BK896.out 0).trans rfl; have hcz3_1 : w2.cell? ⟨gb896, 1, none⟩ = some (.int .i64 a0_1) := (blk_cell BK896.out 1).trans rfl; have hcz3_2 : w2.cell? ⟨gb896, 2, none⟩ = some (.int .i64 a0_2) := (blk_cell BK896.out 2).trans rfl; have hcz3_3 : w2.cell? ⟨gb896, 3, none⟩ = some (.int .i64 a0_3) := (blk_cell BK896.out 3).trans rfl; have hfz3_0 := blk_frozen BK896.out 0; have hfz3_1 := blk_frozen BK896.out 1; have hfz3_2 := blk_frozen BK896.out 2; have hfz3_3 := blk_frozen BK896.out 3))
  go_ret
  exact ⟨by first | rfl | (simp [errW_none, errW_some] <;> rfl) | (simp [*, errW_none, errW_some] <;> rfl) | (simp [Int.tdiv_eq_ediv_of_nonneg, *]; done), by repeat (first | (with_reducible first | exact HB.out | apply below_alloc | apply pw_below_drewN | apply below_drew1 | refine below_set ?_ GE896.out) | exact HB.out)⟩

/-! ### impl_Grout_loss: function 116 -/
def impl_Grout_loss.f (a0_0 : Int) (a0_1 : Int) (a0_2 : Int) (a0_3 : Int) : Option (Int) := (impl_Grout_set.f a0_0 a0_1 a0_2 a0_3).bind fun t898 => (some (mx (wrap64 (a0_1 - t898)) 0))
set_option maxHeartbeats 8000000 in
set_option maxRecDepth 100000 in
theorem impl_Grout_loss.calls (a0_0 : Int) (a0_1 : Int) (a0_2 : Int) (a0_3 : Int) (r : Int) (w : World) (h : impl_Grout_loss.f a0_0 a0_1 a0_2 a0_3 = some r) :
    Calls Try.prog 116 #[.agg #[.int .i64 a0_0, .int .i64 a0_1, .int .i64 a0_2, .int .i64 a0_3]] w fun e w' => e = .returned (.int .i64 r) ∧ Below w.heap.size w w' := by
  have hu148 := Try.underlying148
  have HB := Aside0.mk (Below.refl w.heap.size w)
  have H : ((impl_Grout_set.f a0_0 a0_1 a0_2 a0_3).bind fun t898 => (some (mx (wrap64 (a0_1 - t898)) 0))) = some r := h
  clear h
  replace H := Option.bind_eq_some_iff.mp H
  obtain ⟨t898, A20, H⟩ := H
  replace H : (some (mx (wrap64 (a0_1 - t898)) 0)) = some r := H
  have A2 := Aside0.mk A20
  clear A20
  obtain ⟨ji3, hji3⟩ : ∃ j_ : Int, (mx (wrap64 (a0_1 - t898)) 0) = j_ := ⟨_, rfl⟩
  replace H : (some ji3) = some r := by first | (rw [hji3] at H; exact H) | (simp only [hji3] at H ⊢; exact H)
  (try rw [hji3] at A2)
  (try (have hji3l : 0 ≤ ji3 := by (rw [← hji3]; unfold mx; (repeat' split) <;> omega)))
  (try (have hji3m : 0 ≤ ji3 := by omega))
  have hji3_ : (if (wrap64 (a0_1 - t898)) < 0 then 0 else (wrap64 (a0_1 - t898))) = ji3 := hji3
  obtain rfl := Option.some.inj H
  go_enter Try.func116, Try.ntmps116
  try go_wp2_with (first | ((with_reducible refine gate_dst (N := 1) rfl ?_); refine box_event ?hg (N := 1) ?hd (cs := #[.int .i64 a0_0, .int .i64 a0_1, .int .i64 a0_2, .int .i64 a0_3]) (t := 148) ?hr ?_; (case hd => rfl); (case hg => rfl); (case hr => first | (go_simp; done) | (go_simp; rfl)); intro gb897 hg w4 hbox hb; have n0_ := Aside0.mk (below_step (by repeat (first | (with_reducible first | exact HB.out | apply below_alloc | apply pw_below_drewN | apply below_drew1) | exact HB.out)) hb); have n1_ := Aside0.mk (hbox); have n2_ := Aside0.mk ((by rw [hg]; exact (below_size (by repeat (first | (with_reducible first | exact HB.out | apply below_alloc | apply pw_below_drewN | apply below_drew1) | exact HB.out))) : w.heap.size ≤ gb897)); have n3_ := Aside0.mk ((by rw [hg]; exact (below_size (by repeat (first | (with_reducible first | exact HB.out | apply below_alloc | apply pw_below_drewN | apply below_drew1) | exact HB.out))) : w.heap.size ≤ gb897)); clear HB; have HB := n0_; have BK897 := n1_; have GW897 := n2_; have GE897 := n3_; clear n0_ n1_ n2_ n3_; clear hb hbox hg))
  have n0_ := Aside0.mk (blk_drew BK897.out)
  have n1_ := Aside0.mk (below_drew1 HB.out)
  clear BK897
  clear HB
  have BK897 := n0_
  have HB := n1_
  clear n0_ n1_
  refine start_ (n := 7) (S := fun w' => w'.cell? ⟨gb897, 0, none⟩ = some (.int .i64 a0_0) ∧ w'.cell? ⟨gb897, 1, none⟩ = some (.int .i64 a0_1) ∧ w'.cell? ⟨gb897, 2, none⟩ = some (.int .i64 a0_2) ∧ w'.cell? ⟨gb897, 3, none⟩ = some (.int .i64 a0_3)) (ds := []) #[false, false, false, false, false, false, false] (by kernel_rfl) rfl rfl ⟨(blk_cell BK897.out 0).trans rfl, (blk_cell BK897.out 1).trans rfl, (blk_cell BK897.out 2).trans rfl, (blk_cell BK897.out 3).trans rfl⟩ (fun hHeld => ?_)
  generalize w4.drew = w5 at BK897 HB hHeld ⊢
  refine pure_ (i := 0) (N := some 3) (v := ?_) (a' := ?_) #[true, false, false, false, false, false, false] rfl rfl (by kernel_rfl) (fun _ _ _ h => h) (Or.inl ⟨by rfl, ?_⟩) ?_ ?_
  rotate_left
  · intro w'
    go_simp
    with_reducible rfl
  rotate_left
  · simp only [Act.put, List.setIfInBounds_toArray, List.set_cons_zero, List.set_cons_succ, i64_w, i32_w]
    rfl
  refine take_ (i := 1) (N := some 4) (v := ?_) (a' := ?_) #[true, true, false, false, false, false, false] rfl rfl (by kernel_rfl) (fun _ _ _ h => h) (Or.inl ⟨by rfl, ?_⟩) hHeld ?_ ?_
  rotate_left
  · rintro w' ⟨s0, s1, s2, s3⟩
    go_simp
    with_reducible rfl
  rotate_left
  · simp only [Act.put, List.setIfInBounds_toArray, List.set_cons_zero, List.set_cons_succ, i64_w, i32_w]
    rfl
  refine take_ (i := 2) (N := some 5) (v := ?_) (a' := ?_) #[true, true, true, false, false, false, false] rfl rfl (by kernel_rfl) (fun _ _ _ h => h) (Or.inl ⟨by rfl, ?_⟩) hHeld ?_ ?_
  rotate_left
  · rintro w' ⟨s0, s1, s2, s3⟩
    go_simp
    with_reducible rfl
  rotate_left
  · simp only [Act.put, List.setIfInBounds_toArray, List.set_cons_zero, List.set_cons_succ, i64_w, i32_w]
    rfl
  refine one_ (i := 3) (N := some 6) #[true, true, true, true, false, false, false] rfl rfl (by kernel_rfl) (by decide) (fun K hK => ?_)
  refine goes_ Try.func142 (by kernel_rfl) rfl #[.agg #[.int .i64 a0_0, .int .i64 a0_1, .int .i64 a0_2, .int .i64 a0_3]] (by rfl) rfl rfl (by (try simp only [List.map_toArray, List.map_cons, List.map_nil]); first | done | rfl | (simp only [List.length_drop, List.length_take]; rfl)) ?_
  with_reducible refine (impl_Grout_set.calls a0_0 a0_1 a0_2 a0_3 t898 _ A2.out).mono ?_
  rintro e w6 ⟨rfl, hb⟩
  refine ⟨_, rfl, ?_⟩
  have n0_ := Aside0.mk (blk_below (g := gb897) (o := .cells #[.int .i64 a0_0, .int .i64 a0_1, .int .i64 a0_2, .int .i64 a0_3] 148 (0, 0)) (by (with_reducible repeat (first | refine blk_drewN ?_ _ | refine blk_drew ?_ | refine blk_alloc ?_ _)); exact BK897.out) hb)
  have n1_ := Aside0.mk (below_step (by repeat (first | (with_reducible first | exact HB.out | apply below_alloc | apply pw_below_drewN | apply below_drew1 | refine below_set ?_ GE897.out) | exact HB.out)) hb)
  clear BK897
  clear HB
  have BK897 := n0_
  have HB := n1_
  clear n0_ n1_
  (try clear hb)
  (try clear hb2)
  (try clear hk)
  (try clear hi)
  refine hK.out _ _ ⟨(blk_cell BK897.out 0).trans rfl, (blk_cell BK897.out 1).trans rfl, (blk_cell BK897.out 2).trans rfl, (blk_cell BK897.out 3).trans rfl⟩ (fun hHeld => ?_)
  clear hK K
  refine norm_ (a' := ?_) ?_ ?_
  rotate_left
  · show Act.put _ (some 6) _ = _
    simp only [Act.put, List.setIfInBounds_toArray, List.set_cons_zero, List.set_cons_succ, i64_w, i32_w]
    rfl
  refine pure_ (i := 4) (N := some 7) (v := ?_) (a' := ?_) #[true, true, true, true, true, false, false] rfl rfl (by kernel_rfl) (fun _ _ _ h => h) (Or.inl ⟨by rfl, ?_⟩) ?_ ?_
  rotate_left
  · intro w'
    go_simp
    with_reducible rfl
  rotate_left
  · simp only [Act.put, List.setIfInBounds_toArray, List.set_cons_zero, List.set_cons_succ, i64_w, i32_w]
    rfl
  refine pure_ (i := 5) (N := some 8) (v := ?_) (a' := ?_) #[true, true, true, true, true, true, false] rfl rfl (by kernel_rfl) (fun _ _ _ h => h) (Or.inl ⟨by rfl, ?_⟩) ?_ ?_
  rotate_left
  · intro w'
    go_simp
    with_reducible rfl
  rotate_left
  · simp only [Act.put, List.setIfInBounds_toArray, List.set_cons_zero, List.set_cons_succ, i64_w, i32_w]
    rfl
  refine pure_ (i := 6) (N := some 2) (v := ?_) (a' := ?_) #[true, true, true, true, true, true, true] rfl rfl (by kernel_rfl) (fun _ _ _ h => h) (Or.inl ⟨by rfl, ?_⟩) ?_ ?_
  rotate_left
  · intro w'
    go_simp
    with_reducible rfl
  rotate_left
  · simp only [Act.put, List.setIfInBounds_toArray, List.set_cons_zero, List.set_cons_succ, i64_w, i32_w]
    rfl
  refine done_ (by kernel_rfl) ?_
  try go_wp2
  go_ret
  exact ⟨by first | rfl | (simp [errW_none, errW_some] <;> rfl) | (simp only [← hji3]; first | rfl | (simp [errW_none, errW_some] <;> rfl)) | (simp [*, errW_none, errW_some] <;> rfl) | (simp [Int.tdiv_eq_ediv_of_nonneg, *]; done), by repeat (first | (with_reducible first | exact HB.out | apply below_alloc | apply pw_below_drewN | apply below_drew1 | refine below_set ?_ GE897.out) | exact HB.out)⟩

/-! ### impl_LossesOf: function 58 -/
mutual
def impl_LossesOf.j0 : Nat → List (S148) → Int → Bool → Option ((List (S107)) × Bool)
  | 0, _, _, _ => none
  | k + 1, x0, x1, x16 => if x16 = true then (some (([] : List (S107)), false)) else (impl_LossesOf.l0 k x1 (([] : List (S107))) x0 (x0.length : Int) 0)
def impl_LossesOf.l0 : Nat → Int → List (S107) → List (S148) → Int → Int → Option ((List (S107)) × Bool)
  | 0, _, _, _, _, _ => none
  | k + 1, x1, x6, x18, x19, x20 => if x20 < x19 then (if 0 ≤ x20 then (if x20 < (x18.length : Int) then ((impl_Grout_loss.f ((rd_T148 x18 x20).f0) ((rd_T148 x18 x20).f1) ((rd_T148 x18 x20).f2) ((rd_T148 x18 x20).f3)).bind fun t906 => (if x6.length < 5864062014805 then (impl_LossesOf.l0 k x1 (x6 ++ [(⟨(rd_T148 x18 x20).f0, t906, x1⟩ : S107)]) x18 x19 (wrap64 (x20 + 1))) else (none))) else (none)) else (none)) else ((impl_ValidLosses.f k x6).bind fun t910 => (if t910 = true then (some (x6, true)) else (some (([] : List (S107)), false))))
end
def impl_LossesOf.f (k : Nat) (l0 : List (S148)) (a1 : Int) : Option ((List (S107)) × Bool) := (impl_ValidGrouts.f k l0).bind fun t899 => (if t899 = true then ((impl_within.f a1 0 5).bind fun t900 => (impl_LossesOf.j0 k l0 a1 (!t900))) else (impl_LossesOf.j0 k l0 a1 true))
theorem impl_LossesOf.mono_l : ∀ k, (∀ y0 y1 y2, LeO (impl_LossesOf.j0 k y0 y1 y2) (impl_LossesOf.j0 (k + 1) y0 y1 y2)) ∧ (∀ y0 y1 y2 y3 y4, LeO (impl_LossesOf.l0 k y0 y1 y2 y3 y4) (impl_LossesOf.l0 (k + 1) y0 y1 y2 y3 y4))
  | 0 => ⟨fun _ _ _ r h => by simp [impl_LossesOf.j0] at h, fun _ _ _ _ _ r h => by simp [impl_LossesOf.l0] at h⟩
  | k + 1 => by
    obtain ⟨ih0, ih1⟩ := impl_LossesOf.mono_l k
    refine ⟨?_, ?_⟩
    · intro y0 y1 y2
      unfold impl_LossesOf.j0
      repeat' first
      | (with_reducible exact ih0 _ _ _)
      | (with_reducible exact ih1 _ _ _ _ _)
      | (with_reducible exact impl_ValidGrouts.mono _ _)
      | (with_reducible exact impl_ValidLosses.mono _ _)
      | (with_reducible exact LeO.refl _)
      | (with_reducible exact LeO.none _)
      | (with_reducible refine LeO.ite ?_ ?_)
      | (with_reducible refine LeO.bind ?_ (fun _ => ?_))
      | exact ih0 _ _ _
      | exact ih1 _ _ _ _ _
      | exact impl_ValidGrouts.mono _ _
      | exact impl_ValidLosses.mono _ _
      | exact LeO.none _
      | refine LeO.ite ?_ ?_
      | refine LeO.bind ?_ (fun _ => ?_)
    · intro y0 y1 y2 y3 y4
      unfold impl_LossesOf.l0
      repeat' first
      | (with_reducible exact ih0 _ _ _)
      | (with_reducible exact ih1 _ _ _ _ _)
      | (with_reducible exact impl_ValidGrouts.mono _ _)
      | (with_reducible exact impl_ValidLosses.mono _ _)
      | (with_reducible exact LeO.refl _)
      | (with_reducible exact LeO.none _)
      | (with_reducible refine LeO.ite ?_ ?_)
      | (with_reducible refine LeO.bind ?_ (fun _ => ?_))
      | exact ih0 _ _ _
      | exact ih1 _ _ _ _ _
      | exact impl_ValidGrouts.mono _ _
      | exact impl_ValidLosses.mono _ _
      | exact LeO.none _
      | refine LeO.ite ?_ ?_
      | refine LeO.bind ?_ (fun _ => ?_)
theorem impl_LossesOf.mono : ∀ a0 a1 k, LeO (impl_LossesOf.f k a0 a1) (impl_LossesOf.f (k + 1) a0 a1) := by
  intro a0 a1 k
  obtain ⟨ih0, ih1⟩ := impl_LossesOf.mono_l k
  unfold impl_LossesOf.f
  repeat' first
      | (with_reducible exact ih0 _ _ _)
      | (with_reducible exact ih1 _ _ _ _ _)
      | (with_reducible exact impl_ValidGrouts.mono _ _)
      | (with_reducible exact impl_ValidLosses.mono _ _)
      | (with_reducible exact LeO.refl _)
      | (with_reducible exact LeO.none _)
      | (with_reducible refine LeO.ite ?_ ?_)
      | (with_reducible refine LeO.bind ?_ (fun _ => ?_))
      | exact ih0 _ _ _
      | exact ih1 _ _ _ _ _
      | exact impl_ValidGrouts.mono _ _
      | exact impl_ValidLosses.mono _ _
      | exact LeO.none _
      | refine LeO.ite ?_ ?_
      | refine LeO.bind ?_ (fun _ => ?_)
def impl_LossesOf.T7 : Bool × List (List Nat × List Nat) := (true, [([], []), ([], []), ([1], [1]), ([], []), ([3], [3]), ([], []), ([2, 4, 5], [2, 4, 5]), ([6], [6]), ([0, 7, 4], [0, 7]), ([8, 8, 0, 1, 2, 3, 4, 5, 6, 7, 8], [0, 8])])
def impl_LossesOf.B7 : List Nat := [0, 0, 2, 0, 8, 0, 62, 126, 255, 511]
theorem impl_LossesOf.tab7 : rtab .any (opsOf Try.f58 7) = impl_LossesOf.T7 := by kernel_rfl
theorem impl_LossesOf.bits7 : waitsOk impl_LossesOf.T7.2 impl_LossesOf.B7 = true := by kernel_rfl
set_option maxHeartbeats 8000000 in
set_option maxRecDepth 100000 in
theorem impl_LossesOf.calls (k : Nat) (A0 : Option Addr) (c0 : Nat) (l0 : List (S148)) (a1 : Int) (r1 : List (S107)) (r2 : Bool) (w : World) (hr0 : Kd.C k148 w A0 l0.length l0) (hc0 : l0.length ≤ c0) (h : impl_LossesOf.f k l0 a1 = some (r1, r2)) :
    Calls Try.prog 58 #[.slice A0 l0.length c0, .int .i64 a1] w fun e w' => ∃ v0_ : Value, e = .returned (.tuple #[v0_, .bool r2]) ∧ Kd.R k107 107 w' w.heap.size (fun _ => True) v0_ r1 ∧ Below w.heap.size w w' := by
  have hu148 := Try.underlying148
  have hu107 := Try.underlying107
  have HR0 := Aside0.mk hr0
  have HC0 := Aside0.mk hc0
  clear hr0 hc0
  have HB := Aside0.mk (Below.refl w.heap.size w)
  have H : ((impl_ValidGrouts.f k l0).bind fun t899 => (if t899 = true then ((impl_within.f a1 0 5).bind fun t900 => (impl_LossesOf.j0 k l0 a1 (!t900))) else (impl_LossesOf.j0 k l0 a1 true))) = some (r1, r2) := h
  clear h
  have HC3 := Aside0.mk H
  clear H
  go_enter Try.func58, Try.ntmps58
  go_upto_region 1 with (fail)
  go_cut [16] (fun v16 wc => ∃ (kq : Nat) (x16_2 : Bool), v16 = .bool x16_2 ∧ Aside0 (impl_LossesOf.j0 kq l0 a1 x16_2 = some (r1, r2)) ∧ Aside0 (kq ≤ k) ∧ Aside0 (Below w.heap.size w wc))
  case first =>
    have H := HC3.out
    clear HC3
    replace H := Option.bind_eq_some_iff.mp H
    obtain ⟨t899, A40, H⟩ := H
    replace H : (if t899 = true then ((impl_within.f a1 0 5).bind fun t900 => (impl_LossesOf.j0 k l0 a1 (!t900))) else (impl_LossesOf.j0 k l0 a1 true)) = some (r1, r2) := H
    have A4 := Aside0.mk A40
    clear A40
    by_cases c5 : t899 = true
    · subst c5
      have H1 : ((impl_within.f a1 0 5).bind fun t900 => (impl_LossesOf.j0 k l0 a1 (!t900))) = some (r1, r2) := by rw [if_pos rfl] at H; exact H
      clear H
      have H := H1
      clear H1
      replace H := Option.bind_eq_some_iff.mp H
      obtain ⟨t900, A60, H⟩ := H
      replace H : (impl_LossesOf.j0 k l0 a1 (!t900)) = some (r1, r2) := H
      have A6 := Aside0.mk A60
      clear A60
      have H' := Aside0.mk H
      clear H
      go_wp2_with (first | ((with_reducible refine gate_callee (f := 115) rfl ?_); refine goesL_ (some 10) rfl rfl Try.func115 (by kernel_rfl) rfl #[.slice A0 l0.length c0] rfl (by (try simp only [List.map_toArray, List.map_cons, List.map_nil]); first | done | rfl | (simp only [List.length_drop, List.length_take]; rfl)) ?_; (with_reducible refine (impl_ValidGrouts.calls k _ _ l0 true _ ?side1 ?side2 A4.out).mono ?_); (case side1 => repeat (first | exact (Kd.C_below HR0.out HB.out) | (with_reducible refine Kd.C_alloc ?_ _) | (with_reducible refine Kd.C_drewN ?_ _) | (with_reducible refine Kd.C_drew ?_))); (case side2 => exact HC0.out); rintro e w7 ⟨rfl, hb⟩; refine ⟨_, rfl, ?_⟩; have n0_ := Aside0.mk (below_step (by repeat (first | (with_reducible first | exact HB.out | apply below_alloc | apply pw_below_drewN | apply below_drew1) | exact HB.out)) hb); clear HB; have HB := n0_; clear n0_; (try clear hb); (try clear hb2); (try clear hk); (try clear hi)) | (go_at_call 77; (with_reducible refine (impl_within.calls a1 0 5 t900 _ A6.out).mono ?_); rintro e w' ⟨rfl, ⟨nd, rfl⟩⟩))
      go_meet
      case rel => exact ⟨_, (!t900), (by first | rfl | (simp; done) | (simp [*]; done) | (simp [Int.tdiv_eq_ediv_of_nonneg, *]; done)), H', ⟨by first | omega | exact Nat.le_refl _⟩, ⟨by repeat (first | (with_reducible first | exact HB.out | apply below_alloc | apply pw_below_drewN | apply below_drew1) | exact HB.out)⟩⟩
    · replace c5 := Bool.eq_false_iff.mpr c5
      subst c5
      have H1 : (impl_LossesOf.j0 k l0 a1 true) = some (r1, r2) := by rw [if_neg (show ¬ (false = true) by decide)] at H; exact H
      clear H
      have H := H1
      clear H1
      have H' := Aside0.mk H
      clear H
      go_wp2_with (first | ((with_reducible refine gate_callee (f := 115) rfl ?_); refine goesL_ (some 10) rfl rfl Try.func115 (by kernel_rfl) rfl #[.slice A0 l0.length c0] rfl (by (try simp only [List.map_toArray, List.map_cons, List.map_nil]); first | done | rfl | (simp only [List.length_drop, List.length_take]; rfl)) ?_; (with_reducible refine (impl_ValidGrouts.calls k _ _ l0 false _ ?side1 ?side2 A4.out).mono ?_); (case side1 => repeat (first | exact (Kd.C_below HR0.out HB.out) | (with_reducible refine Kd.C_alloc ?_ _) | (with_reducible refine Kd.C_drewN ?_ _) | (with_reducible refine Kd.C_drew ?_))); (case side2 => exact HC0.out); rintro e w8 ⟨rfl, hb⟩; refine ⟨_, rfl, ?_⟩; have n0_ := Aside0.mk (below_step (by repeat (first | (with_reducible first | exact HB.out | apply below_alloc | apply pw_below_drewN | apply below_drew1) | exact HB.out)) hb); clear HB; have HB := n0_; clear n0_; (try clear hb); (try clear hb2); (try clear hk); (try clear hi)))
      go_meet
      case rel => exact ⟨_, (true), (by first | rfl | (simp; done) | (simp [*]; done) | (simp [Int.tdiv_eq_ediv_of_nonneg, *]; done)), H', ⟨by first | omega | exact Nat.le_refl _⟩, ⟨by repeat (first | (with_reducible first | exact HB.out | apply below_alloc | apply pw_below_drewN | apply below_drew1) | exact HB.out)⟩⟩
  case rest =>
    clear HC3
    try clear c1
    try clear p2
    try clear c5
    obtain ⟨kq, x16_2, rfl, HA, HJ2, HB⟩ := hcut
    cases kq with
    | zero => exact absurd HA.out (by simp [impl_LossesOf.j0])
    | succ kj2 =>
      have H := HA.out
      clear HA
      simp only [impl_LossesOf.j0] at H
      by_cases c9 : x16_2 = true
      · subst c9
        have H1 : (some (([] : List (S107)), false)) = some (r1, r2) := by rw [if_pos rfl] at H; exact H
        clear H
        have H := H1
        clear H1
        simp only [Option.some.injEq, Prod.mk.injEq] at H
        obtain ⟨rfl, rfl⟩ := H
        go_wp2
        go_ret2
        exact ⟨_, by first | rfl | (simp [errW_none, errW_some] <;> rfl) | (simp [*, errW_none, errW_some] <;> rfl) | (simp [Int.tdiv_eq_ediv_of_nonneg, *]; done), by first | exact Kd.R_nil _ _ _ _ _ | exact Kd.N_nil _ _ _ _ _ | exact Kd.V_nil _ _ _ _ _ | exact Kd.Q_nil _ _ _ _ _ | exact Kd.S_nil _ _ _ _ _, by repeat (first | (with_reducible first | exact HB.out | apply below_alloc | apply pw_below_drewN | apply below_drew1) | exact HB.out)⟩
      · replace c9 := Bool.eq_false_iff.mpr c9
        subst c9
        have H1 : (impl_LossesOf.l0 kj2 a1 (([] : List (S107))) l0 (l0.length : Int) 0) = some (r1, r2) := by rw [if_neg (show ¬ (false = true) by decide)] at H; exact H
        clear H
        have H := H1
        clear H1
        obtain ⟨y901, hy901⟩ : ∃ y_ : List (S107), y_ = (([] : List (S107))) := ⟨_, rfl⟩
        replace H : (impl_LossesOf.l0 kj2 a1 y901 l0 (l0.length : Int) 0) = some (r1, r2) := by first | (rw [hy901]; with_reducible exact H) | (have H2_ := (Option.bind_some _ _).symm.trans H; rw [hy901]; with_reducible exact H2_) | (have H2_ := (Option.bind_some _ _).symm.trans H; with_reducible exact H2_) | with_reducible exact H | (rw [hy901]; exact H) | exact H
        have Ny901 := Aside0.mk hy901
        clear hy901
        have H' := Aside0.mk H
        clear H
        go_wp2_with (first | ((with_reducible refine gate_dst (N := 17) rfl ?_); refine Kd.R_lit k107 _ 107 ?hg (N := 17) ?hd (xs := ([] : List (S107))) (inner := []) (ok := fun _ => True) (okp := fun _ => True) ?hr ?hp (fun _ hk => hk) trivial (Below.refl _ _) (Nat.le_refl _) (by simp) ?_; (case hd => rfl); (case hg => rfl); (case hr => first | (go_simp; done) | (go_simp; rfl)); (case hp => exact (Reps.none _ _)); intro v902 w10 ho11 hb hg_ hnew_; clear hg_ hnew_; (first | rw [← Ny901.out] at ho11 | (simp only [Int.reduceToNat] at ho11; rw [← Ny901.out] at ho11)); have n0_ := Aside0.mk (Kd.R_lower ho11 (below_size (by repeat (first | (with_reducible first | exact HB.out | apply below_alloc | apply pw_below_drewN | apply below_drew1) | exact HB.out)))); have n1_ := Aside0.mk (below_step (by repeat (first | (with_reducible first | exact HB.out | apply below_alloc | apply pw_below_drewN | apply below_drew1) | exact HB.out)) hb); clear HB; have HO903 := n0_; have HB := n1_; clear n0_ n1_; clear hb ho11))
        go_loopg [6, 20] kj2 (fun kq v6 v20 w' => ∃ (x6_2 : List (S107)) (x20_2 : Int), v20 = .int .i64 x20_2 ∧ Aside0 (impl_LossesOf.l0 kq a1 x6_2 l0 (l0.length : Int) x20_2 = some (r1, r2)) ∧ Aside0 (kq ≤ kj2) ∧ Aside0 (Kd.R k107 107 w' w.heap.size (fun _ => True) v6 x6_2) ∧ Aside0 (Below w.heap.size w w'))
        case atStart => exact ⟨(y901), (0), (by first | rfl | (simp; done) | (simp [*]; done) | (simp [Int.tdiv_eq_ediv_of_nonneg, *]; done)), H', ⟨Nat.le_refl _⟩, ⟨by (with_reducible repeat (first | apply Kd.R_alloc | apply Kd.R_drewN | apply Kd.R_drew)); exact HO903.out⟩, ⟨by repeat (first | (with_reducible first | exact HB.out | apply below_alloc | apply pw_below_drewN | apply below_drew1) | exact HB.out)⟩⟩
        case round =>
          clear H'
          try clear c1
          try clear p2
          try clear c5
          try clear c9
          try clear c11
          try clear p2
          obtain ⟨x6_2, x20_2, rfl, HA, HK2, HO_6, HB⟩ := hrel
          cases gk with
          | zero => exact absurd HA.out (by simp [impl_LossesOf.l0])
          | succ k2 =>
            have H := HA.out
            clear HA
            simp only [impl_LossesOf.l0] at H
            by_cases c12 : x20_2 < (l0.length : Int)
            · rw [if_pos c12] at H
              have c12b0 : decide (x20_2 < (l0.length : Int)) = true := decide_eq_true c12
              clear c12
              by_cases c13 : 0 ≤ x20_2
              · rw [if_pos c13] at H
                have c13b0 : decide (0 ≤ x20_2) = true := decide_eq_true c13
                clear c13
                by_cases c14 : x20_2 < (l0.length : Int)
                · rw [if_pos c14] at H
                  have c14b0 : decide (x20_2 < (l0.length : Int)) = true := decide_eq_true c14
                  clear c14
                  replace H := Option.bind_eq_some_iff.mp H
                  obtain ⟨t906, A150, H⟩ := H
                  replace H : (if x6_2.length < 5864062014805 then (impl_LossesOf.l0 k2 a1 (x6_2 ++ [(⟨(rd_T148 l0 x20_2).f0, t906, a1⟩ : S107)]) l0 (l0.length : Int) (wrap64 (x20_2 + 1))) else (none)) = some (r1, r2) := H
                  have A15 := Aside0.mk A150
                  clear A150
                  by_cases c16 : x6_2.length < 5864062014805
                  · rw [if_pos c16] at H
                    have LMc16 := Aside0.mk c16
                    clear c16
                    obtain ⟨y907, hy907⟩ : ∃ y_ : List (S107), y_ = (x6_2 ++ [(⟨(rd_T148 l0 x20_2).f0, t906, a1⟩ : S107)]) := ⟨_, rfl⟩
                    replace H : (impl_LossesOf.l0 k2 a1 y907 l0 (l0.length : Int) (wrap64 (x20_2 + 1))) = some (r1, r2) := by first | (rw [hy907]; with_reducible exact H) | (have H2_ := (Option.bind_some _ _).symm.trans H; rw [hy907]; with_reducible exact H2_) | (have H2_ := (Option.bind_some _ _).symm.trans H; with_reducible exact H2_) | with_reducible exact H | (rw [hy907]; exact H) | exact H
                    have Ny907 := Aside0.mk hy907
                    clear hy907
                    have H' := Aside0.mk H
                    clear H
                    have p904 : 0 ≤ (x20_2 : Int) := of_decide_eq_true (by first | (with_reducible assumption) | assumption)
                    have q904 : x20_2 < (l0.length : Int) := of_decide_eq_true (by first | (with_reducible assumption) | assumption)
                    obtain ⟨ad904, e904, hx904_0, hx904_1, hx904_2, hx904_3⟩ := at_T148 HR0.out x20_2 p904 q904
                    cases e904
                    replace hx904_0 := (HB.out.cell (World.block_lt_of_cell? w _ hx904_0)).trans hx904_0
                    replace hx904_1 := (HB.out.cell (World.block_lt_of_cell? w _ hx904_1)).trans hx904_1
                    replace hx904_2 := (HB.out.cell (World.block_lt_of_cell? w _ hx904_2)).trans hx904_2
                    replace hx904_3 := (HB.out.cell (World.block_lt_of_cell? w _ hx904_3)).trans hx904_3
                    replace p904 := eq_true p904
                    replace q904 := eq_true q904
                    try go_wp2_with (first | ((with_reducible refine gate_dst (N := 8) rfl ?_); refine box_event ?hg (N := 8) ?hd (cs := #[.int .i64 0, .int .i64 0, .int .i64 0, .int .i64 0]) (t := 148) ?hr ?_; (case hd => rfl); (case hg => rfl); (case hr => first | (go_simp; done) | (go_simp; rfl)); intro gb905 hg w17 hbox hb; have n0_ := Aside0.mk (Kd.R_below (by (with_reducible repeat (first | apply Kd.R_alloc | apply Kd.R_drewN | apply Kd.R_drew)); exact HO_6.out) hb); have n1_ := Aside0.mk (below_step (by repeat (first | (with_reducible first | exact HB.out | apply below_alloc | apply pw_below_drewN | apply below_drew1) | exact HB.out)) hb); have n2_ := Aside0.mk (hbox); have n3_ := Aside0.mk ((by rw [hg]; exact (below_size (by repeat (first | (with_reducible first | exact HB.out | apply below_alloc | apply pw_below_drewN | apply below_drew1) | exact HB.out))) : w.heap.size ≤ gb905)); have n4_ := Aside0.mk ((by rw [hg]; exact (below_size (by repeat (first | (with_reducible first | exact HB.out | apply below_alloc | apply pw_below_drewN | apply below_drew1) | exact HB.out))) : w.heap.size ≤ gb905)); clear HO_6; clear HB; have HO_6 := n0_; have HB := n1_; have BK905 := n2_; have GW905 := n3_; have GE905 := n4_; clear n0_ n1_ n2_ n3_ n4_; clear hb hbox hg; have hcz18_0 : w17.cell? ⟨gb905, 0, none⟩ = some (.int .i64 0) := (blk_cell BK905.out 0).trans rfl; have hcz18_1 : w17.cell? ⟨gb905, 1, none⟩ = some (.int .i64 0) := (blk_cell BK905.out 1).trans rfl; have hcz18_2 : w17.cell? ⟨gb905, 2, none⟩ = some (.int .i64 0) := (blk_cell BK905.out 2).trans rfl; have hcz18_3 : w17.cell? ⟨gb905, 3, none⟩ = some (.int .i64 0) := (blk_cell BK905.out 3).trans rfl; have hfz18_0 := blk_frozen BK905.out 0; have hfz18_1 := blk_frozen BK905.out 1; have hfz18_2 := blk_frozen BK905.out 2; have hfz18_3 := blk_frozen BK905.out 3))
                    have n0_ : Aside0 (Kd.R k107 107 ((((w17.setCell ⟨gb905, 0, none⟩ (.int .i64 ((rd_T148 l0 x20_2).f0))).setCell ⟨gb905, 1, none⟩ (.int .i64 ((rd_T148 l0 x20_2).f1))).setCell ⟨gb905, 2, none⟩ (.int .i64 ((rd_T148 l0 x20_2).f2))).setCell ⟨gb905, 3, none⟩ (.int .i64 ((rd_T148 l0 x20_2).f3))) w.heap.size (fun _ => True) u6 x6_2) := ⟨by (with_reducible repeat (first | apply Kd.R_alloc | apply Kd.R_drewN | apply Kd.R_drew)); exact Kd.R_mono (Kd.R_far (p := ⟨gb905, 3, none⟩) (Kd.R_far (p := ⟨gb905, 2, none⟩) (Kd.R_far (p := ⟨gb905, 1, none⟩) (Kd.R_far (p := ⟨gb905, 0, none⟩) (Kd.R_types HO_6.out BK905.out (by decide)) (fun _ hk => hk.2) (.int .i64 ((rd_T148 l0 x20_2).f0))) (fun _ hk => hk.2) (.int .i64 ((rd_T148 l0 x20_2).f1))) (fun _ hk => hk.2) (.int .i64 ((rd_T148 l0 x20_2).f2))) (fun _ hk => hk.2) (.int .i64 ((rd_T148 l0 x20_2).f3))) (fun _ hk => trivial)⟩
                    have n1_ : Aside0 (((((w17.setCell ⟨gb905, 0, none⟩ (.int .i64 ((rd_T148 l0 x20_2).f0))).setCell ⟨gb905, 1, none⟩ (.int .i64 ((rd_T148 l0 x20_2).f1))).setCell ⟨gb905, 2, none⟩ (.int .i64 ((rd_T148 l0 x20_2).f2))).setCell ⟨gb905, 3, none⟩ (.int .i64 ((rd_T148 l0 x20_2).f3))).heap[gb905]? = some (.cells #[.int .i64 ((rd_T148 l0 x20_2).f0), .int .i64 ((rd_T148 l0 x20_2).f1), .int .i64 ((rd_T148 l0 x20_2).f2), .int .i64 ((rd_T148 l0 x20_2).f3)] 148 (0, 0))) := ⟨by (with_reducible repeat (first | refine blk_drewN ?_ _ | refine blk_drew ?_ | refine blk_alloc ?_ _)); refine blk_put (cs := #[.int .i64 ((rd_T148 l0 x20_2).f0), .int .i64 ((rd_T148 l0 x20_2).f1), .int .i64 ((rd_T148 l0 x20_2).f2), .int .i64 0]) ?_ 3 _ rfl; (with_reducible repeat (first | refine blk_drewN ?_ _ | refine blk_drew ?_ | refine blk_alloc ?_ _)); refine blk_put (cs := #[.int .i64 ((rd_T148 l0 x20_2).f0), .int .i64 ((rd_T148 l0 x20_2).f1), .int .i64 0, .int .i64 0]) ?_ 2 _ rfl; (with_reducible repeat (first | refine blk_drewN ?_ _ | refine blk_drew ?_ | refine blk_alloc ?_ _)); refine blk_put (cs := #[.int .i64 ((rd_T148 l0 x20_2).f0), .int .i64 0, .int .i64 0, .int .i64 0]) ?_ 1 _ rfl; (with_reducible repeat (first | refine blk_drewN ?_ _ | refine blk_drew ?_ | refine blk_alloc ?_ _)); refine blk_put (cs := #[.int .i64 0, .int .i64 0, .int .i64 0, .int .i64 0]) ?_ 0 _ rfl; (with_reducible repeat (first | refine blk_drewN ?_ _ | refine blk_drew ?_ | refine blk_alloc ?_ _)); exact BK905.out⟩
                    have n2_ : Aside0 (Below w.heap.size w ((((w17.setCell ⟨gb905, 0, none⟩ (.int .i64 ((rd_T148 l0 x20_2).f0))).setCell ⟨gb905, 1, none⟩ (.int .i64 ((rd_T148 l0 x20_2).f1))).setCell ⟨gb905, 2, none⟩ (.int .i64 ((rd_T148 l0 x20_2).f2))).setCell ⟨gb905, 3, none⟩ (.int .i64 ((rd_T148 l0 x20_2).f3)))) := ⟨by repeat (first | (with_reducible first | exact HB.out | apply below_alloc | apply pw_below_drewN | apply below_drew1 | refine below_set ?_ GE905.out) | exact HB.out)⟩
                    (try clear HO_6)
                    (try clear BK905)
                    (try clear HB)
                    generalize ((((w17.setCell ⟨gb905, 0, none⟩ (.int .i64 ((rd_T148 l0 x20_2).f0))).setCell ⟨gb905, 1, none⟩ (.int .i64 ((rd_T148 l0 x20_2).f1))).setCell ⟨gb905, 2, none⟩ (.int .i64 ((rd_T148 l0 x20_2).f2))).setCell ⟨gb905, 3, none⟩ (.int .i64 ((rd_T148 l0 x20_2).f3))) = w19 at n0_ n1_ n2_ ⊢
                    have HO_6 := n0_
                    have BK905 := n1_
                    have HB := n2_
                    clear n0_ n1_ n2_
                    have n0_ := Aside0.mk (Kd.R_drew HO_6.out)
                    have n1_ := Aside0.mk (blk_drew BK905.out)
                    have n2_ := Aside0.mk (below_drew1 HB.out)
                    clear HO_6
                    clear BK905
                    clear HB
                    have HO_6 := n0_
                    have BK905 := n1_
                    have HB := n2_
                    clear n0_ n1_ n2_
                    refine start_ (n := 10) (S := fun w' => w'.cell? ⟨gb905, 0, none⟩ = some (.int .i64 ((rd_T148 l0 x20_2).f0)) ∧ w'.cell? ⟨gb905, 1, none⟩ = some (.int .i64 ((rd_T148 l0 x20_2).f1)) ∧ w'.cell? ⟨gb905, 2, none⟩ = some (.int .i64 ((rd_T148 l0 x20_2).f2)) ∧ w'.cell? ⟨gb905, 3, none⟩ = some (.int .i64 ((rd_T148 l0 x20_2).f3))) (ds := []) #[false, false, false, false, false, false, false, false, false, false] (by kernel_rfl) rfl rfl ⟨(blk_cell BK905.out 0).trans rfl, (blk_cell BK905.out 1).trans rfl, (blk_cell BK905.out 2).trans rfl, (blk_cell BK905.out 3).trans rfl⟩ (fun hHeld => ?_); refine with_tabW impl_LossesOf.tab7 impl_LossesOf.bits7 (fun HT_ HW_ => ?_)
                    generalize w19.drew = w20 at HO_6 BK905 HB hHeld ⊢
                    refine pure_ (i := 0) (N := some 24) (v := ?_) (a' := ?_) #[true, false, false, false, false, false, false, false, false, false] rfl rfl (any_of HT_.out (by kernel_rfl)) (fun _ _ _ h => h) (Or.inl ⟨by rfl, ?_⟩) ?_ ?_
                    rotate_left
                    · intro w'
                      go_simp
                      with_reducible rfl
                    rotate_left
                    · simp only [Act.put, List.setIfInBounds_toArray, List.set_cons_zero, List.set_cons_succ, i64_w, i32_w]
                      rfl
                    refine pure_ (i := 1) (N := some 25) (v := ?_) (a' := ?_) #[true, true, false, false, false, false, false, false, false, false] rfl rfl (any_of HT_.out (by kernel_rfl)) (fun _ _ _ h => h) (Or.inl ⟨by rfl, ?_⟩) ?_ ?_
                    rotate_left
                    · intro w'
                      go_simp
                      with_reducible rfl
                    rotate_left
                    · simp only [Act.put, List.setIfInBounds_toArray, List.set_cons_zero, List.set_cons_succ, i64_w, i32_w]
                      rfl
                    refine pure_ (i := 5) (N := some 29) (v := ?_) (a' := ?_) #[true, true, false, false, false, true, false, false, false, false] rfl rfl (any_of HT_.out (by kernel_rfl)) (fun _ _ _ h => h) (Or.inl ⟨by rfl, ?_⟩) ?_ ?_
                    rotate_left
                    · intro w'
                      go_simp
                      with_reducible rfl
                    rotate_left
                    · simp only [Act.put, List.setIfInBounds_toArray, List.set_cons_zero, List.set_cons_succ, i64_w, i32_w]
                      rfl
                    refine take_ (i := 2) (N := some 26) (v := ?_) (a' := ?_) #[true, true, true, false, false, true, false, false, false, false] rfl rfl (take_ofW HT_.out HW_.out (by kernel_rfl)) (fun _ _ _ h => h) (Or.inl ⟨by rfl, ?_⟩) hHeld ?_ ?_
                    rotate_left
                    · rintro w' ⟨s0, s1, s2, s3⟩
                      go_simp
                      with_reducible rfl
                    rotate_left
                    · simp only [Act.put, List.setIfInBounds_toArray, List.set_cons_zero, List.set_cons_succ, i64_w, i32_w]
                      rfl
                    refine take_ (i := 3) (N := some 27) (v := ?_) (a' := ?_) #[true, true, true, true, false, true, false, false, false, false] rfl rfl (take_ofW HT_.out HW_.out (by kernel_rfl)) (fun _ _ _ h => h) (Or.inl ⟨by rfl, ?_⟩) hHeld ?_ ?_
                    rotate_left
                    · rintro w' ⟨s0, s1, s2, s3⟩
                      go_simp
                      with_reducible rfl
                    rotate_left
                    · simp only [Act.put, List.setIfInBounds_toArray, List.set_cons_zero, List.set_cons_succ, i64_w, i32_w]
                      rfl
                    refine one_ (i := 4) (N := some 28) #[true, true, true, true, true, true, false, false, false, false] rfl rfl (one_of HT_.out (by kernel_rfl)) (by decide) (fun K hK => ?_)
                    refine goes_ Try.func116 (by kernel_rfl) rfl #[.agg #[.int .i64 ((rd_T148 l0 x20_2).f0), .int .i64 ((rd_T148 l0 x20_2).f1), .int .i64 ((rd_T148 l0 x20_2).f2), .int .i64 ((rd_T148 l0 x20_2).f3)]] (by rfl) rfl rfl (by (try simp only [List.map_toArray, List.map_cons, List.map_nil]); first | done | rfl | (simp only [List.length_drop, List.length_take]; rfl)) ?_
                    with_reducible refine (impl_Grout_loss.calls ((rd_T148 l0 x20_2).f0) ((rd_T148 l0 x20_2).f1) ((rd_T148 l0 x20_2).f2) ((rd_T148 l0 x20_2).f3) t906 _ A15.out).mono ?_
                    rintro e w21 ⟨rfl, hb⟩
                    refine ⟨_, rfl, ?_⟩
                    have n0_ := Aside0.mk (Kd.R_below (by (with_reducible repeat (first | apply Kd.R_alloc | apply Kd.R_drewN | apply Kd.R_drew)); exact HO_6.out) hb)
                    have n1_ := Aside0.mk (blk_below (g := gb905) (o := .cells #[.int .i64 ((rd_T148 l0 x20_2).f0), .int .i64 ((rd_T148 l0 x20_2).f1), .int .i64 ((rd_T148 l0 x20_2).f2), .int .i64 ((rd_T148 l0 x20_2).f3)] 148 (0, 0)) (by (with_reducible repeat (first | refine blk_drewN ?_ _ | refine blk_drew ?_ | refine blk_alloc ?_ _)); exact BK905.out) hb)
                    have n2_ := Aside0.mk (below_step (by repeat (first | (with_reducible first | exact HB.out | apply below_alloc | apply pw_below_drewN | apply below_drew1 | refine below_set ?_ GE905.out) | exact HB.out)) hb)
                    clear HO_6
                    clear BK905
                    clear HB
                    have HO_6 := n0_
                    have BK905 := n1_
                    have HB := n2_
                    clear n0_ n1_ n2_
                    (try clear hb)
                    (try clear hb2)
                    (try clear hk)
                    (try clear hi)
                    refine hK.out _ _ ⟨(blk_cell BK905.out 0).trans rfl, (blk_cell BK905.out 1).trans rfl, (blk_cell BK905.out 2).trans rfl, (blk_cell BK905.out 3).trans rfl⟩ (fun hHeld => ?_)
                    clear hK K
                    refine norm_ (a' := ?_) ?_ ?_
                    rotate_left
                    · show Act.put _ (some 28) _ = _
                      simp only [Act.put, List.setIfInBounds_toArray, List.set_cons_zero, List.set_cons_succ, i64_w, i32_w]
                      rfl
                    refine pure_ (i := 6) (N := some 30) (v := ?_) (a' := ?_) #[true, true, true, true, true, true, true, false, false, false] rfl rfl (any_of HT_.out (by kernel_rfl)) (fun _ _ _ h => h) (Or.inl ⟨by rfl, ?_⟩) ?_ ?_
                    rotate_left
                    · intro w'
                      go_simp
                      with_reducible rfl
                    rotate_left
                    · simp only [Act.put, List.setIfInBounds_toArray, List.set_cons_zero, List.set_cons_succ, i64_w, i32_w]
                      rfl
                    refine one_ (i := 7) (N := some 31) #[true, true, true, true, true, true, true, true, false, false] rfl rfl (one_of HT_.out (by kernel_rfl)) (by decide) (fun K hK => ?_)
                    refine value_ (w1 := ?_) (v := ?_) (by rfl) rfl ?_ ?_
                    rotate_left 2
                    · go_simp
                      constructor
                      · rfl
                      · rfl
                    refine hK.out _ _ ⟨(blk_cell (blk_alloc BK905.out _) 0).trans rfl, (blk_cell (blk_alloc BK905.out _) 1).trans rfl, (blk_cell (blk_alloc BK905.out _) 2).trans rfl, (blk_cell (blk_alloc BK905.out _) 3).trans rfl⟩ (fun hHeld => ?_)
                    clear hK K
                    refine norm_ (a' := ?_) ?_ ?_
                    rotate_left
                    · show Act.put _ (some 31) _ = _
                      simp only [Act.put, List.setIfInBounds_toArray, List.set_cons_zero, List.set_cons_succ, i64_w, i32_w]
                      rfl
                    refine one_ (i := 8) (N := some 32) #[true, true, true, true, true, true, true, true, true, false] rfl rfl (one_of HT_.out (by kernel_rfl)) (by decide) (fun K hK => ?_)
                    refine Kd.R_append_step k107 (w0 := w) w.heap.size (by rfl) (.tmp 24) (.tmp 31) 27 107 (.agg #[(.int .i64 0), (.int .i64 0), (.int .i64 0)]) 24 rfl Try.underlying27 info107 rfl (by decide) (by omega) u6 x6_2 (⟨(rd_T148 l0 x20_2).f0, t906, a1⟩ : S107) [.int .i64 ((rd_T148 l0 x20_2).f0), .int .i64 t906, .int .i64 a1] (fun _ => True) (fun _ => False) rfl rfl ?aP (fun _ hk => hk.elim) ?aF ?aO ?aB ?aS ?aL ?_
                    (case aP => exact k107_mkM _ _ _ (⟨(rd_T148 l0 x20_2).f0, t906, a1⟩ : S107))
                    (case aB => exact (by repeat (first | (with_reducible first | exact HB.out | apply below_alloc | apply pw_below_drewN | apply below_drew1 | refine below_set ?_ GE905.out) | exact HB.out)))
                    (case aF => exact (fun _ _ => trivial))
                    (case aO => exact (by (with_reducible repeat (first | apply Kd.R_alloc | apply Kd.R_drewN | apply Kd.R_drew)); exact HO_6.out))
                    (case aS => exact (below_size (by repeat (first | (with_reducible first | exact HB.out | apply below_alloc | apply pw_below_drewN | apply below_drew1 | refine below_set ?_ GE905.out) | exact HB.out))))
                    (case aL => have := LMc16.out; omega)
                    intro v908 w22 ho hb hg hat
                    rw [← Ny907.out] at ho
                    have n0_ := Aside0.mk (blk_grown (g := gb905) (o := .cells #[.int .i64 ((rd_T148 l0 x20_2).f0), .int .i64 ((rd_T148 l0 x20_2).f1), .int .i64 ((rd_T148 l0 x20_2).f2), .int .i64 ((rd_T148 l0 x20_2).f3)] 148 (0, 0)) (by (with_reducible repeat (first | refine blk_drewN ?_ _ | refine blk_drew ?_ | refine blk_alloc ?_ _)); exact BK905.out) hg (Kd.R_ne HO_6.out BK905.out (by decide)))
                    have n1_ := Aside0.mk (hb)
                    have n2_ := Aside0.mk (ho)
                    clear BK905
                    clear HB
                    clear HO_6
                    have BK905 := n0_
                    have HB := n1_
                    have HO909 := n2_
                    clear n0_ n1_ n2_
                    clear ho hb hg hat
                    refine hK.out _ _ ⟨(blk_cell BK905.out 0).trans rfl, (blk_cell BK905.out 1).trans rfl, (blk_cell BK905.out 2).trans rfl, (blk_cell BK905.out 3).trans rfl⟩ (fun hHeld => ?_)
                    clear hK K
                    refine norm_ (a' := ?_) ?_ ?_
                    rotate_left
                    · show Act.put _ (some 32) _ = _
                      simp only [Act.put, List.setIfInBounds_toArray, List.set_cons_zero, List.set_cons_succ, i64_w, i32_w]
                      rfl
                    refine pure_ (i := 9) (N := some 6) (v := ?_) (a' := ?_) #[true, true, true, true, true, true, true, true, true, true] rfl rfl (any_of HT_.out (by kernel_rfl)) (fun _ _ _ h => h) (Or.inl ⟨by rfl, ?_⟩) ?_ ?_
                    rotate_left
                    · intro w'
                      go_simp
                      with_reducible rfl
                    rotate_left
                    · simp only [Act.put, List.setIfInBounds_toArray, List.set_cons_zero, List.set_cons_succ, i64_w, i32_w]
                      rfl
                    refine done_ (done_of HT_.out (by kernel_rfl)) ?_
                    try go_wp2
                    go_roundg k2
                    case measure => have := HJ2.out; have := HK2.out; omega
                    case rel => exact ⟨(y907), (wrap64 (x20_2 + 1)), (by first | rfl | (simp; done) | (simp [*]; done) | (simp [Int.tdiv_eq_ediv_of_nonneg, *]; done)), H', ⟨by have := HJ2.out; have := HK2.out; omega⟩, ⟨by (with_reducible repeat (first | apply Kd.R_alloc | apply Kd.R_drewN | apply Kd.R_drew)); exact HO909.out⟩, ⟨by repeat (first | (with_reducible first | exact HB.out | apply below_alloc | apply pw_below_drewN | apply below_drew1 | refine below_set ?_ GE905.out) | exact HB.out)⟩⟩
                  · rw [if_neg c16] at H
                    exact absurd H (by simp)
                · rw [if_neg c14] at H
                  exact absurd H (by simp)
              · rw [if_neg c13] at H
                exact absurd H (by simp)
            · rw [if_neg c12] at H
              have c12b0 : decide (x20_2 < (l0.length : Int)) = false := decide_eq_false c12
              clear c12
              replace H := Option.bind_eq_some_iff.mp H
              obtain ⟨t910, A230, H⟩ := H
              replace H : (if t910 = true then (some (x6_2, true)) else (some (([] : List (S107)), false))) = some (r1, r2) := H
              have A23 := Aside0.mk A230
              clear A230
              by_cases c24 : t910 = true
              · subst c24
                have H1 : (some (x6_2, true)) = some (r1, r2) := by rw [if_pos rfl] at H; exact H
                clear H
                have H := H1
                clear H1
                simp only [Option.some.injEq, Prod.mk.injEq] at H
                obtain ⟨rfl, rfl⟩ := H
                obtain ⟨Ao25, co25, eo25⟩ := Kd.R_slice HO_6.out
                subst eo25
                go_wp2_with (first | ((with_reducible refine gate_callee (f := 71) rfl ?_); refine goesL_ (some 35) rfl rfl Try.func71 (by kernel_rfl) rfl #[.slice Ao25 x6_2.length co25] rfl (by (try simp only [List.map_toArray, List.map_cons, List.map_nil]); first | done | rfl | (simp only [List.length_drop, List.length_take]; rfl)) ?_; (with_reducible refine (impl_ValidLosses.calls k2 _ _ x6_2 true _ ?side1 ?side2 A23.out).mono ?_); (case side1 => repeat (first | exact (Kd.R_reads' HO_6.out).2.2 | (with_reducible refine Kd.C_alloc ?_ _) | (with_reducible refine Kd.C_drewN ?_ _) | (with_reducible refine Kd.C_drew ?_))); (case side2 => exact (Kd.R_reads' HO_6.out).2.1); rintro e w26 ⟨rfl, hb⟩; refine ⟨_, rfl, ?_⟩; have n0_ := Aside0.mk (Kd.R_below (by (with_reducible repeat (first | apply Kd.R_alloc | apply Kd.R_drewN | apply Kd.R_drew)); exact HO_6.out) hb); have n1_ := Aside0.mk (below_step (by repeat (first | (with_reducible first | exact HB.out | apply below_alloc | apply pw_below_drewN | apply below_drew1) | exact HB.out)) hb); clear HO_6; clear HB; have HO_6 := n0_; have HB := n1_; clear n0_ n1_; (try clear hb); (try clear hb2); (try clear hk); (try clear hi)))
                go_ret2
                exact ⟨_, by first | rfl | (simp [errW_none, errW_some] <;> rfl) | (simp [*, errW_none, errW_some] <;> rfl) | (simp [Int.tdiv_eq_ediv_of_nonneg, *]; done), by (with_reducible repeat (first | apply Kd.R_alloc | apply Kd.R_drewN | apply Kd.R_drew)); exact HO_6.out, by repeat (first | (with_reducible first | exact HB.out | apply below_alloc | apply pw_below_drewN | apply below_drew1) | exact HB.out)⟩
              · replace c24 := Bool.eq_false_iff.mpr c24
                subst c24
                have H1 : (some (([] : List (S107)), false)) = some (r1, r2) := by rw [if_neg (show ¬ (false = true) by decide)] at H; exact H
                clear H
                have H := H1
                clear H1
                simp only [Option.some.injEq, Prod.mk.injEq] at H
                obtain ⟨rfl, rfl⟩ := H
                obtain ⟨Ao27, co27, eo27⟩ := Kd.R_slice HO_6.out
                subst eo27
                go_wp2_with (first | ((with_reducible refine gate_callee (f := 71) rfl ?_); refine goesL_ (some 35) rfl rfl Try.func71 (by kernel_rfl) rfl #[.slice Ao27 x6_2.length co27] rfl (by (try simp only [List.map_toArray, List.map_cons, List.map_nil]); first | done | rfl | (simp only [List.length_drop, List.length_take]; rfl)) ?_; (with_reducible refine (impl_ValidLosses.calls k2 _ _ x6_2 false _ ?side1 ?side2 A23.out).mono ?_); (case side1 => repeat (first | exact (Kd.R_reads' HO_6.out).2.2 | (with_reducible refine Kd.C_alloc ?_ _) | (with_reducible refine Kd.C_drewN ?_ _) | (with_reducible refine Kd.C_drew ?_))); (case side2 => exact (Kd.R_reads' HO_6.out).2.1); rintro e w28 ⟨rfl, hb⟩; refine ⟨_, rfl, ?_⟩; have n0_ := Aside0.mk (Kd.R_below (by (with_reducible repeat (first | apply Kd.R_alloc | apply Kd.R_drewN | apply Kd.R_drew)); exact HO_6.out) hb); have n1_ := Aside0.mk (below_step (by repeat (first | (with_reducible first | exact HB.out | apply below_alloc | apply pw_below_drewN | apply below_drew1) | exact HB.out)) hb); clear HO_6; clear HB; have HO_6 := n0_; have HB := n1_; clear n0_ n1_; (try clear hb); (try clear hb2); (try clear hk); (try clear hi)))
                go_ret2
                exact ⟨_, by first | rfl | (simp [errW_none, errW_some] <;> rfl) | (simp [*, errW_none, errW_some] <;> rfl) | (simp [Int.tdiv_eq_ediv_of_nonneg, *]; done), by first | exact Kd.R_nil _ _ _ _ _ | exact Kd.N_nil _ _ _ _ _ | exact Kd.V_nil _ _ _ _ _ | exact Kd.Q_nil _ _ _ _ _ | exact Kd.S_nil _ _ _ _ _, by repeat (first | (with_reducible first | exact HB.out | apply below_alloc | apply pw_below_drewN | apply below_drew1) | exact HB.out)⟩

/-! ### laws_eqGrout: function 117 -/
def laws_eqGrout.f (a0_0 : Int) (a0_1 : Int) (a0_2 : Int) (a0_3 : Int) (a1_0 : Int) (a1_1 : Int) (a1_2 : Int) (a1_3 : Int) : Option (Bool) := if a0_0 = a1_0 then (if a0_1 = a1_1 then (if a0_2 = a1_2 then (if a0_3 = a1_3 then (some true) else (some false)) else (some false)) else (some false)) else (some false)
set_option maxHeartbeats 8000000 in
set_option maxRecDepth 100000 in
theorem laws_eqGrout.calls (a0_0 : Int) (a0_1 : Int) (a0_2 : Int) (a0_3 : Int) (a1_0 : Int) (a1_1 : Int) (a1_2 : Int) (a1_3 : Int) (r : Bool) (w : World) (h : laws_eqGrout.f a0_0 a0_1 a0_2 a0_3 a1_0 a1_1 a1_2 a1_3 = some r) :
    Calls Try.prog 117 #[.agg #[.int .i64 a0_0, .int .i64 a0_1, .int .i64 a0_2, .int .i64 a0_3], .agg #[.int .i64 a1_0, .int .i64 a1_1, .int .i64 a1_2, .int .i64 a1_3]] w fun e w' => e = .returned (.bool r) ∧ Below w.heap.size w w' := by
  have hu148 := Try.underlying148
  have HB := Aside0.mk (Below.refl w.heap.size w)
  have H : (if a0_0 = a1_0 then (if a0_1 = a1_1 then (if a0_2 = a1_2 then (if a0_3 = a1_3 then (some true) else (some false)) else (some false)) else (some false)) else (some false)) = some r := h
  clear h
  by_cases c3 : a0_0 = a1_0
  · rw [if_pos c3] at H
    have c3b0 : (a0_0 == a1_0) = true := beq_iff_eq.mpr c3
    have c3b1 : (a0_0 != a1_0) = false := bne_eq_false_iff_eq.mpr c3
    clear c3
    by_cases c4 : a0_1 = a1_1
    · rw [if_pos c4] at H
      have c4b0 : (a0_1 == a1_1) = true := beq_iff_eq.mpr c4
      have c4b1 : (a0_1 != a1_1) = false := bne_eq_false_iff_eq.mpr c4
      clear c4
      by_cases c5 : a0_2 = a1_2
      · rw [if_pos c5] at H
        have c5b0 : (a0_2 == a1_2) = true := beq_iff_eq.mpr c5
        have c5b1 : (a0_2 != a1_2) = false := bne_eq_false_iff_eq.mpr c5
        clear c5
        by_cases c6 : a0_3 = a1_3
        · rw [if_pos c6] at H
          have c6b0 : (a0_3 == a1_3) = true := beq_iff_eq.mpr c6
          have c6b1 : (a0_3 != a1_3) = false := bne_eq_false_iff_eq.mpr c6
          clear c6
          obtain rfl := Option.some.inj H
          go_enter Try.func117, Try.ntmps117
          go_wp2_with (first | ((with_reducible refine gate_dst (N := 2) rfl ?_); refine box_event ?hg (N := 2) ?hd (cs := #[.int .i64 a0_0, .int .i64 a0_1, .int .i64 a0_2, .int .i64 a0_3]) (t := 148) ?hr ?_; (case hd => rfl); (case hg => rfl); (case hr => first | (go_simp; done) | (go_simp; rfl)); intro gb911 hg w7 hbox hb; have n0_ := Aside0.mk (below_step (by repeat (first | (with_reducible first | exact HB.out | apply below_alloc | apply pw_below_drewN | apply below_drew1) | exact HB.out)) hb); have n1_ := Aside0.mk (hbox); have n2_ := Aside0.mk ((by rw [hg]; exact (below_size (by repeat (first | (with_reducible first | exact HB.out | apply below_alloc | apply pw_below_drewN | apply below_drew1) | exact HB.out))) : w.heap.size ≤ gb911)); have n3_ := Aside0.mk ((by rw [hg]; exact (below_size (by repeat (first | (with_reducible first | exact HB.out | apply below_alloc | apply pw_below_drewN | apply below_drew1) | exact HB.out))) : w.heap.size ≤ gb911)); clear HB; have HB := n0_; have BK911 := n1_; have GW911 := n2_; have GE911 := n3_; clear n0_ n1_ n2_ n3_; clear hb hbox hg) | ((with_reducible refine gate_dst (N := 3) rfl ?_); refine box_event ?hg (N := 3) ?hd (cs := #[.int .i64 a1_0, .int .i64 a1_1, .int .i64 a1_2, .int .i64 a1_3]) (t := 148) ?hr ?_; (case hd => rfl); (case hg => rfl); (case hr => first | (go_simp; done) | (go_simp; rfl)); intro gb912 hg w8 hbox hb; have n0_ := Aside0.mk (blk_below (g := gb911) (o := .cells #[.int .i64 a0_0, .int .i64 a0_1, .int .i64 a0_2, .int .i64 a0_3] 148 (0, 0)) (by (with_reducible repeat (first | refine blk_drewN ?_ _ | refine blk_drew ?_ | refine blk_alloc ?_ _)); exact BK911.out) hb); have n1_ := Aside0.mk (below_step (by repeat (first | (with_reducible first | exact HB.out | apply below_alloc | apply pw_below_drewN | apply below_drew1 | refine below_set ?_ GE911.out) | exact HB.out)) hb); have n2_ := Aside0.mk (hbox); have n3_ := Aside0.mk ((by rw [hg]; exact (below_size (by repeat (first | (with_reducible first | exact HB.out | apply below_alloc | apply pw_below_drewN | apply below_drew1 | refine below_set ?_ GE911.out) | exact HB.out))) : w.heap.size ≤ gb912)); have n4_ := Aside0.mk ((by rw [hg]; exact (below_size (by repeat (first | (with_reducible first | exact HB.out | apply below_alloc | apply pw_below_drewN | apply below_drew1 | refine below_set ?_ GE911.out) | exact HB.out))) : w.heap.size ≤ gb912)); have n5_ := Aside0.mk ((by rw [hg]; exact Nat.ne_of_lt (blk_lt (g := gb911) (o := .cells #[.int .i64 a0_0, .int .i64 a0_1, .int .i64 a0_2, .int .i64 a0_3] 148 (0, 0)) (by (with_reducible repeat (first | refine blk_drewN ?_ _ | refine blk_drew ?_ | refine blk_alloc ?_ _)); exact BK911.out)) : gb911 ≠ gb912)); have n6_ := Aside0.mk ((by rw [hg]; exact Nat.ne_of_gt (blk_lt (g := gb911) (o := .cells #[.int .i64 a0_0, .int .i64 a0_1, .int .i64 a0_2, .int .i64 a0_3] 148 (0, 0)) (by (with_reducible repeat (first | refine blk_drewN ?_ _ | refine blk_drew ?_ | refine blk_alloc ?_ _)); exact BK911.out)) : gb912 ≠ gb911)); clear BK911; clear HB; have BK911 := n0_; have HB := n1_; have BK912 := n2_; have GW912 := n3_; have GE912 := n4_; have NB911_912 := n5_; have NB912_911 := n6_; clear n0_ n1_ n2_ n3_ n4_ n5_ n6_; clear hb hbox hg; have hnb9 := NB911_912.out; have hnc9 := NB912_911.out; have hcz10_0 : w8.cell? ⟨gb911, 0, none⟩ = some (.int .i64 a0_0) := (blk_cell BK911.out 0).trans rfl; have hcz10_1 : w8.cell? ⟨gb911, 1, none⟩ = some (.int .i64 a0_1) := (blk_cell BK911.out 1).trans rfl; have hcz10_2 : w8.cell? ⟨gb911, 2, none⟩ = some (.int .i64 a0_2) := (blk_cell BK911.out 2).trans rfl; have hcz10_3 : w8.cell? ⟨gb911, 3, none⟩ = some (.int .i64 a0_3) := (blk_cell BK911.out 3).trans rfl; have hfz10_0 := blk_frozen BK911.out 0; have hfz10_1 := blk_frozen BK911.out 1; have hfz10_2 := blk_frozen BK911.out 2; have hfz10_3 := blk_frozen BK911.out 3; have hcz11_0 : w8.cell? ⟨gb912, 0, none⟩ = some (.int .i64 a1_0) := (blk_cell BK912.out 0).trans rfl; have hcz11_1 : w8.cell? ⟨gb912, 1, none⟩ = some (.int .i64 a1_1) := (blk_cell BK912.out 1).trans rfl; have hcz11_2 : w8.cell? ⟨gb912, 2, none⟩ = some (.int .i64 a1_2) := (blk_cell BK912.out 2).trans rfl; have hcz11_3 : w8.cell? ⟨gb912, 3, none⟩ = some (.int .i64 a1_3) := (blk_cell BK912.out 3).trans rfl; have hfz11_0 := blk_frozen BK912.out 0; have hfz11_1 := blk_frozen BK912.out 1; have hfz11_2 := blk_frozen BK912.out 2; have hfz11_3 := blk_frozen BK912.out 3))
          go_ret
          exact ⟨by first | rfl | (simp [errW_none, errW_some] <;> rfl) | (simp [*, errW_none, errW_some] <;> rfl) | (simp [Int.tdiv_eq_ediv_of_nonneg, *]; done), by repeat (first | (with_reducible first | exact HB.out | apply below_alloc | apply pw_below_drewN | apply below_drew1 | refine below_set ?_ GE911.out | refine below_set ?_ GE912.out) | exact HB.out)⟩
        · rw [if_neg c6] at H
          have c6b0 : (a0_3 == a1_3) = false := beq_eq_false_iff_ne.mpr c6
          have c6b1 : (a0_3 != a1_3) = true := bne_iff_ne.mpr c6
          obtain rfl := Option.some.inj H
          go_enter Try.func117, Try.ntmps117
          go_wp2_with (first | ((with_reducible refine gate_dst (N := 2) rfl ?_); refine box_event ?hg (N := 2) ?hd (cs := #[.int .i64 a0_0, .int .i64 a0_1, .int .i64 a0_2, .int .i64 a0_3]) (t := 148) ?hr ?_; (case hd => rfl); (case hg => rfl); (case hr => first | (go_simp; done) | (go_simp; rfl)); intro gb911 hg w12 hbox hb; have n0_ := Aside0.mk (below_step (by repeat (first | (with_reducible first | exact HB.out | apply below_alloc | apply pw_below_drewN | apply below_drew1) | exact HB.out)) hb); have n1_ := Aside0.mk (hbox); have n2_ := Aside0.mk ((by rw [hg]; exact (below_size (by repeat (first | (with_reducible first | exact HB.out | apply below_alloc | apply pw_below_drewN | apply below_drew1) | exact HB.out))) : w.heap.size ≤ gb911)); have n3_ := Aside0.mk ((by rw [hg]; exact (below_size (by repeat (first | (with_reducible first | exact HB.out | apply below_alloc | apply pw_below_drewN | apply below_drew1) | exact HB.out))) : w.heap.size ≤ gb911)); clear HB; have HB := n0_; have BK911 := n1_; have GW911 := n2_; have GE911 := n3_; clear n0_ n1_ n2_ n3_; clear hb hbox hg) | ((with_reducible refine gate_dst (N := 3) rfl ?_); refine box_event ?hg (N := 3) ?hd (cs := #[.int .i64 a1_0, .int .i64 a1_1, .int .i64 a1_2, .int .i64 a1_3]) (t := 148) ?hr ?_; (case hd => rfl); (case hg => rfl); (case hr => first | (go_simp; done) | (go_simp; rfl)); intro gb912 hg w13 hbox hb; have n0_ := Aside0.mk (blk_below (g := gb911) (o := .cells #[.int .i64 a0_0, .int .i64 a0_1, .int .i64 a0_2, .int .i64 a0_3] 148 (0, 0)) (by (with_reducible repeat (first | refine blk_drewN ?_ _ | refine blk_drew ?_ | refine blk_alloc ?_ _)); exact BK911.out) hb); have n1_ := Aside0.mk (below_step (by repeat (first | (with_reducible first | exact HB.out | apply below_alloc | apply pw_below_drewN | apply below_drew1 | refine below_set ?_ GE911.out) | exact HB.out)) hb); have n2_ := Aside0.mk (hbox); have n3_ := Aside0.mk ((by rw [hg]; exact (below_size (by repeat (first | (with_reducible first | exact HB.out | apply below_alloc | apply pw_below_drewN | apply below_drew1 | refine below_set ?_ GE911.out) | exact HB.out))) : w.heap.size ≤ gb912)); have n4_ := Aside0.mk ((by rw [hg]; exact (below_size (by repeat (first | (with_reducible first | exact HB.out | apply below_alloc | apply pw_below_drewN | apply below_drew1 | refine below_set ?_ GE911.out) | exact HB.out))) : w.heap.size ≤ gb912)); have n5_ := Aside0.mk ((by rw [hg]; exact Nat.ne_of_lt (blk_lt (g := gb911) (o := .cells #[.int .i64 a0_0, .int .i64 a0_1, .int .i64 a0_2, .int .i64 a0_3] 148 (0, 0)) (by (with_reducible repeat (first | refine blk_drewN ?_ _ | refine blk_drew ?_ | refine blk_alloc ?_ _)); exact BK911.out)) : gb911 ≠ gb912)); have n6_ := Aside0.mk ((by rw [hg]; exact Nat.ne_of_gt (blk_lt (g := gb911) (o := .cells #[.int .i64 a0_0, .int .i64 a0_1, .int .i64 a0_2, .int .i64 a0_3] 148 (0, 0)) (by (with_reducible repeat (first | refine blk_drewN ?_ _ | refine blk_drew ?_ | refine blk_alloc ?_ _)); exact BK911.out)) : gb912 ≠ gb911)); clear BK911; clear HB; have BK911 := n0_; have HB := n1_; have BK912 := n2_; have GW912 := n3_; have GE912 := n4_; have NB911_912 := n5_; have NB912_911 := n6_; clear n0_ n1_ n2_ n3_ n4_ n5_ n6_; clear hb hbox hg; have hnb14 := NB911_912.out; have hnc14 := NB912_911.out; have hcz15_0 : w13.cell? ⟨gb911, 0, none⟩ = some (.int .i64 a0_0) := (blk_cell BK911.out 0).trans rfl; have hcz15_1 : w13.cell? ⟨gb911, 1, none⟩ = some (.int .i64 a0_1) := (blk_cell BK911.out 1).trans rfl; have hcz15_2 : w13.cell? ⟨gb911, 2, none⟩ = some (.int .i64 a0_2) := (blk_cell BK911.out 2).trans rfl; have hcz15_3 : w13.cell? ⟨gb911, 3, none⟩ = some (.int .i64 a0_3) := (blk_cell BK911.out 3).trans rfl; have hfz15_0 := blk_frozen BK911.out 0; have hfz15_1 := blk_frozen BK911.out 1; have hfz15_2 := blk_frozen BK911.out 2; have hfz15_3 := blk_frozen BK911.out 3; have hcz16_0 : w13.cell? ⟨gb912, 0, none⟩ = some (.int .i64 a1_0) := (blk_cell BK912.out 0).trans rfl; have hcz16_1 : w13.cell? ⟨gb912, 1, none⟩ = some (.int .i64 a1_1) := (blk_cell BK912.out 1).trans rfl; have hcz16_2 : w13.cell? ⟨gb912, 2, none⟩ = some (.int .i64 a1_2) := (blk_cell BK912.out 2).trans rfl; have hcz16_3 : w13.cell? ⟨gb912, 3, none⟩ = some (.int .i64 a1_3) := (blk_cell BK912.out 3).trans rfl; have hfz16_0 := blk_frozen BK912.out 0; have hfz16_1 := blk_frozen BK912.out 1; have hfz16_2 := blk_frozen BK912.out 2; have hfz16_3 := blk_frozen BK912.out 3))
          go_ret
          exact ⟨by first | rfl | (simp [errW_none, errW_some] <;> rfl) | (simp [*, errW_none, errW_some] <;> rfl) | (simp [Int.tdiv_eq_ediv_of_nonneg, *]; done), by repeat (first | (with_reducible first | exact HB.out | apply below_alloc | apply pw_below_drewN | apply below_drew1 | refine below_set ?_ GE911.out | refine below_set ?_ GE912.out) | exact HB.out)⟩
      · rw [if_neg c5] at H
        have c5b0 : (a0_2 == a1_2) = false := beq_eq_false_iff_ne.mpr c5
        have c5b1 : (a0_2 != a1_2) = true := bne_iff_ne.mpr c5
        obtain rfl := Option.some.inj H
        go_enter Try.func117, Try.ntmps117
        go_wp2_with (first | ((with_reducible refine gate_dst (N := 2) rfl ?_); refine box_event ?hg (N := 2) ?hd (cs := #[.int .i64 a0_0, .int .i64 a0_1, .int .i64 a0_2, .int .i64 a0_3]) (t := 148) ?hr ?_; (case hd => rfl); (case hg => rfl); (case hr => first | (go_simp; done) | (go_simp; rfl)); intro gb911 hg w17 hbox hb; have n0_ := Aside0.mk (below_step (by repeat (first | (with_reducible first | exact HB.out | apply below_alloc | apply pw_below_drewN | apply below_drew1) | exact HB.out)) hb); have n1_ := Aside0.mk (hbox); have n2_ := Aside0.mk ((by rw [hg]; exact (below_size (by repeat (first | (with_reducible first | exact HB.out | apply below_alloc | apply pw_below_drewN | apply below_drew1) | exact HB.out))) : w.heap.size ≤ gb911)); have n3_ := Aside0.mk ((by rw [hg]; exact (below_size (by repeat (first | (with_reducible first | exact HB.out | apply below_alloc | apply pw_below_drewN | apply below_drew1) | exact HB.out))) : w.heap.size ≤ gb911)); clear HB; have HB := n0_; have BK911 := n1_; have GW911 := n2_; have GE911 := n3_; clear n0_ n1_ n2_ n3_; clear hb hbox hg) | ((with_reducible refine gate_dst (N := 3) rfl ?_); refine box_event ?hg (N := 3) ?hd (cs := #[.int .i64 a1_0, .int .i64 a1_1, .int .i64 a1_2, .int .i64 a1_3]) (t := 148) ?hr ?_; (case hd => rfl); (case hg => rfl); (case hr => first | (go_simp; done) | (go_simp; rfl)); intro gb912 hg w18 hbox hb; have n0_ := Aside0.mk (blk_below (g := gb911) (o := .cells #[.int .i64 a0_0, .int .i64 a0_1, .int .i64 a0_2, .int .i64 a0_3] 148 (0, 0)) (by (with_reducible repeat (first | refine blk_drewN ?_ _ | refine blk_drew ?_ | refine blk_alloc ?_ _)); exact BK911.out) hb); have n1_ := Aside0.mk (below_step (by repeat (first | (with_reducible first | exact HB.out | apply below_alloc | apply pw_below_drewN | apply below_drew1 | refine below_set ?_ GE911.out) | exact HB.out)) hb); have n2_ := Aside0.mk (hbox); have n3_ := Aside0.mk ((by rw [hg]; exact (below_size (by repeat (first | (with_reducible first | exact HB.out | apply below_alloc | apply pw_below_drewN | apply below_drew1 | refine below_set ?_ GE911.out) | exact HB.out))) : w.heap.size ≤ gb912)); have n4_ := Aside0.mk ((by rw [hg]; exact (below_size (by repeat (first | (with_reducible first | exact HB.out | apply below_alloc | apply pw_below_drewN | apply below_drew1 | refine below_set ?_ GE911.out) | exact HB.out))) : w.heap.size ≤ gb912)); have n5_ := Aside0.mk ((by rw [hg]; exact Nat.ne_of_lt (blk_lt (g := gb911) (o := .cells #[.int .i64 a0_0, .int .i64 a0_1, .int .i64 a0_2, .int .i64 a0_3] 148 (0, 0)) (by (with_reducible repeat (first | refine blk_drewN ?_ _ | refine blk_drew ?_ | refine blk_alloc ?_ _)); exact BK911.out)) : gb911 ≠ gb912)); have n6_ := Aside0.mk ((by rw [hg]; exact Nat.ne_of_gt (blk_lt (g := gb911) (o := .cells #[.int .i64 a0_0, .int .i64 a0_1, .int .i64 a0_2, .int .i64 a0_3] 148 (0, 0)) (by (with_reducible repeat (first | refine blk_drewN ?_ _ | refine blk_drew ?_ | refine blk_alloc ?_ _)); exact BK911.out)) : gb912 ≠ gb911)); clear BK911; clear HB; have BK911 := n0_; have HB := n1_; have BK912 := n2_; have GW912 := n3_; have GE912 := n4_; have NB911_912 := n5_; have NB912_911 := n6_; clear n0_ n1_ n2_ n3_ n4_ n5_ n6_; clear hb hbox hg; have hnb19 := NB911_912.out; have hnc19 := NB912_911.out; have hcz20_0 : w18.cell? ⟨gb911, 0, none⟩ = some (.int .i64 a0_0) := (blk_cell BK911.out 0).trans rfl; have hcz20_1 : w18.cell? ⟨gb911, 1, none⟩ = some (.int .i64 a0_1) := (blk_cell BK911.out 1).trans rfl; have hcz20_2 : w18.cell? ⟨gb911, 2, none⟩ = some (.int .i64 a0_2) := (blk_cell BK911.out 2).trans rfl; have hcz20_3 : w18.cell? ⟨gb911, 3, none⟩ = some (.int .i64 a0_3) := (blk_cell BK911.out 3).trans rfl; have hfz20_0 := blk_frozen BK911.out 0; have hfz20_1 := blk_frozen BK911.out 1; have hfz20_2 := blk_frozen BK911.out 2; have hfz20_3 := blk_frozen BK911.out 3; have hcz21_0 : w18.cell? ⟨gb912, 0, none⟩ = some (.int .i64 a1_0) := (blk_cell BK912.out 0).trans rfl; have hcz21_1 : w18.cell? ⟨gb912, 1, none⟩ = some (.int .i64 a1_1) := (blk_cell BK912.out 1).trans rfl; have hcz21_2 : w18.cell? ⟨gb912, 2, none⟩ = some (.int .i64 a1_2) := (blk_cell BK912.out 2).trans rfl; have hcz21_3 : w18.cell? ⟨gb912, 3, none⟩ = some (.int .i64 a1_3) := (blk_cell BK912.out 3).trans rfl; have hfz21_0 := blk_frozen BK912.out 0; have hfz21_1 := blk_frozen BK912.out 1; have hfz21_2 := blk_frozen BK912.out 2; have hfz21_3 := blk_frozen BK912.out 3))
        go_ret
        exact ⟨by first | rfl | (simp [errW_none, errW_some] <;> rfl) | (simp [*, errW_none, errW_some] <;> rfl) | (simp [Int.tdiv_eq_ediv_of_nonneg, *]; done), by repeat (first | (with_reducible first | exact HB.out | apply below_alloc | apply pw_below_drewN | apply below_drew1 | refine below_set ?_ GE911.out | refine below_set ?_ GE912.out) | exact HB.out)⟩
    · rw [if_neg c4] at H
      have c4b0 : (a0_1 == a1_1) = false := beq_eq_false_iff_ne.mpr c4
      have c4b1 : (a0_1 != a1_1) = true := bne_iff_ne.mpr c4
      obtain rfl := Option.some.inj H
      go_enter Try.func117, Try.ntmps117
      go_wp2_with (first | ((with_reducible refine gate_dst (N := 2) rfl ?_); refine box_event ?hg (N := 2) ?hd (cs := #[.int .i64 a0_0, .int .i64 a0_1, .int .i64 a0_2, .int .i64 a0_3]) (t := 148) ?hr ?_; (case hd => rfl); (case hg => rfl); (case hr => first | (go_simp; done) | (go_simp; rfl)); intro gb911 hg w22 hbox hb; have n0_ := Aside0.mk (below_step (by repeat (first | (with_reducible first | exact HB.out | apply below_alloc | apply pw_below_drewN | apply below_drew1) | exact HB.out)) hb); have n1_ := Aside0.mk (hbox); have n2_ := Aside0.mk ((by rw [hg]; exact (below_size (by repeat (first | (with_reducible first | exact HB.out | apply below_alloc | apply pw_below_drewN | apply below_drew1) | exact HB.out))) : w.heap.size ≤ gb911)); have n3_ := Aside0.mk ((by rw [hg]; exact (below_size (by repeat (first | (with_reducible first | exact HB.out | apply below_alloc | apply pw_below_drewN | apply below_drew1) | exact HB.out))) : w.heap.size ≤ gb911)); clear HB; have HB := n0_; have BK911 := n1_; have GW911 := n2_; have GE911 := n3_; clear n0_ n1_ n2_ n3_; clear hb hbox hg) | ((with_reducible refine gate_dst (N := 3) rfl ?_); refine box_event ?hg (N := 3) ?hd (cs := #[.int .i64 a1_0, .int .i64 a1_1, .int .i64 a1_2, .int .i64 a1_3]) (t := 148) ?hr ?_; (case hd => rfl); (case hg => rfl); (case hr => first | (go_simp; done) | (go_simp; rfl)); intro gb912 hg w23 hbox hb; have n0_ := Aside0.mk (blk_below (g := gb911) (o := .cells #[.int .i64 a0_0, .int .i64 a0_1, .int .i64 a0_2, .int .i64 a0_3] 148 (0, 0)) (by (with_reducible repeat (first | refine blk_drewN ?_ _ | refine blk_drew ?_ | refine blk_alloc ?_ _)); exact BK911.out) hb); have n1_ := Aside0.mk (below_step (by repeat (first | (with_reducible first | exact HB.out | apply below_alloc | apply pw_below_drewN | apply below_drew1 | refine below_set ?_ GE911.out) | exact HB.out)) hb); have n2_ := Aside0.mk (hbox); have n3_ := Aside0.mk ((by rw [hg]; exact (below_size (by repeat (first | (with_reducible first | exact HB.out | apply below_alloc | apply pw_below_drewN | apply below_drew1 | refine below_set ?_ GE911.out) | exact HB.out))) : w.heap.size ≤ gb912)); have n4_ := Aside0.mk ((by rw [hg]; exact (below_size (by repeat (first | (with_reducible first | exact HB.out | apply below_alloc | apply pw_below_drewN | apply below_drew1 | refine below_set ?_ GE911.out) | exact HB.out))) : w.heap.size ≤ gb912)); have n5_ := Aside0.mk ((by rw [hg]; exact Nat.ne_of_lt (blk_lt (g := gb911) (o := .cells #[.int .i64 a0_0, .int .i64 a0_1, .int .i64 a0_2, .int .i64 a0_3] 148 (0, 0)) (by (with_reducible repeat (first | refine blk_drewN ?_ _ | refine blk_drew ?_ | refine blk_alloc ?_ _)); exact BK911.out)) : gb911 ≠ gb912)); have n6_ := Aside0.mk ((by rw [hg]; exact Nat.ne_of_gt (blk_lt (g := gb911) (o := .cells #[.int .i64 a0_0, .int .i64 a0_1, .int .i64 a0_2, .int .i64 a0_3] 148 (0, 0)) (by (with_reducible repeat (first | refine blk_drewN ?_ _ | refine blk_drew ?_ | refine blk_alloc ?_ _)); exact BK911.out)) : gb912 ≠ gb911)); clear BK911; clear HB; have BK911 := n0_; have HB := n1_; have BK912 := n2_; have GW912 := n3_; have GE912 := n4_; have NB911_912 := n5_; have NB912_911 := n6_; clear n0_ n1_ n2_ n3_ n4_ n5_ n6_; clear hb hbox hg; have hnb24 := NB911_912.out; have hnc24 := NB912_911.out; have hcz25_0 : w23.cell? ⟨gb911, 0, none⟩ = some (.int .i64 a0_0) := (blk_cell BK911.out 0).trans rfl; have hcz25_1 : w23.cell? ⟨gb911, 1, none⟩ = some (.int .i64 a0_1) := (blk_cell BK911.out 1).trans rfl; have hcz25_2 : w23.cell? ⟨gb911, 2, none⟩ = some (.int .i64 a0_2) := (blk_cell BK911.out 2).trans rfl; have hcz25_3 : w23.cell? ⟨gb911, 3, none⟩ = some (.int .i64 a0_3) := (blk_cell BK911.out 3).trans rfl; have hfz25_0 := blk_frozen BK911.out 0; have hfz25_1 := blk_frozen BK911.out 1; have hfz25_2 := blk_frozen BK911.out 2; have hfz25_3 := blk_frozen BK911.out 3; have hcz26_0 : w23.cell? ⟨gb912, 0, none⟩ = some (.int .i64 a1_0) := (blk_cell BK912.out 0).trans rfl; have hcz26_1 : w23.cell? ⟨gb912, 1, none⟩ = some (.int .i64 a1_1) := (blk_cell BK912.out 1).trans rfl; have hcz26_2 : w23.cell? ⟨gb912, 2, none⟩ = some (.int .i64 a1_2) := (blk_cell BK912.out 2).trans rfl; have hcz26_3 : w23.cell? ⟨gb912, 3, none⟩ = some (.int .i64 a1_3) := (blk_cell BK912.out 3).trans rfl; have hfz26_0 := blk_frozen BK912.out 0; have hfz26_1 := blk_frozen BK912.out 1; have hfz26_2 := blk_frozen BK912.out 2; have hfz26_3 := blk_frozen BK912.out 3))
      go_ret
      exact ⟨by first | rfl | (simp [errW_none, errW_some] <;> rfl) | (simp [*, errW_none, errW_some] <;> rfl) | (simp [Int.tdiv_eq_ediv_of_nonneg, *]; done), by repeat (first | (with_reducible first | exact HB.out | apply below_alloc | apply pw_below_drewN | apply below_drew1 | refine below_set ?_ GE911.out | refine below_set ?_ GE912.out) | exact HB.out)⟩
  · rw [if_neg c3] at H
    have c3b0 : (a0_0 == a1_0) = false := beq_eq_false_iff_ne.mpr c3
    have c3b1 : (a0_0 != a1_0) = true := bne_iff_ne.mpr c3
    obtain rfl := Option.some.inj H
    go_enter Try.func117, Try.ntmps117
    go_wp2_with (first | ((with_reducible refine gate_dst (N := 2) rfl ?_); refine box_event ?hg (N := 2) ?hd (cs := #[.int .i64 a0_0, .int .i64 a0_1, .int .i64 a0_2, .int .i64 a0_3]) (t := 148) ?hr ?_; (case hd => rfl); (case hg => rfl); (case hr => first | (go_simp; done) | (go_simp; rfl)); intro gb911 hg w27 hbox hb; have n0_ := Aside0.mk (below_step (by repeat (first | (with_reducible first | exact HB.out | apply below_alloc | apply pw_below_drewN | apply below_drew1) | exact HB.out)) hb); have n1_ := Aside0.mk (hbox); have n2_ := Aside0.mk ((by rw [hg]; exact (below_size (by repeat (first | (with_reducible first | exact HB.out | apply below_alloc | apply pw_below_drewN | apply below_drew1) | exact HB.out))) : w.heap.size ≤ gb911)); have n3_ := Aside0.mk ((by rw [hg]; exact (below_size (by repeat (first | (with_reducible first | exact HB.out | apply below_alloc | apply pw_below_drewN | apply below_drew1) | exact HB.out))) : w.heap.size ≤ gb911)); clear HB; have HB := n0_; have BK911 := n1_; have GW911 := n2_; have GE911 := n3_; clear n0_ n1_ n2_ n3_; clear hb hbox hg) | ((with_reducible refine gate_dst (N := 3) rfl ?_); refine box_event ?hg (N := 3) ?hd (cs := #[.int .i64 a1_0, .int .i64 a1_1, .int .i64 a1_2, .int .i64 a1_3]) (t := 148) ?hr ?_; (case hd => rfl); (case hg => rfl); (case hr => first | (go_simp; done) | (go_simp; rfl)); intro gb912 hg w28 hbox hb; have n0_ := Aside0.mk (blk_below (g := gb911) (o := .cells #[.int .i64 a0_0, .int .i64 a0_1, .int .i64 a0_2, .int .i64 a0_3] 148 (0, 0)) (by (with_reducible repeat (first | refine blk_drewN ?_ _ | refine blk_drew ?_ | refine blk_alloc ?_ _)); exact BK911.out) hb); have n1_ := Aside0.mk (below_step (by repeat (first | (with_reducible first | exact HB.out | apply below_alloc | apply pw_below_drewN | apply below_drew1 | refine below_set ?_ GE911.out) | exact HB.out)) hb); have n2_ := Aside0.mk (hbox); have n3_ := Aside0.mk ((by rw [hg]; exact (below_size (by repeat (first | (with_reducible first | exact HB.out | apply below_alloc | apply pw_below_drewN | apply below_drew1 | refine below_set ?_ GE911.out) | exact HB.out))) : w.heap.size ≤ gb912)); have n4_ := Aside0.mk ((by rw [hg]; exact (below_size (by repeat (first | (with_reducible first | exact HB.out | apply below_alloc | apply pw_below_drewN | apply below_drew1 | refine below_set ?_ GE911.out) | exact HB.out))) : w.heap.size ≤ gb912)); have n5_ := Aside0.mk ((by rw [hg]; exact Nat.ne_of_lt (blk_lt (g := gb911) (o := .cells #[.int .i64 a0_0, .int .i64 a0_1, .int .i64 a0_2, .int .i64 a0_3] 148 (0, 0)) (by (with_reducible repeat (first | refine blk_drewN ?_ _ | refine blk_drew ?_ | refine blk_alloc ?_ _)); exact BK911.out)) : gb911 ≠ gb912)); have n6_ := Aside0.mk ((by rw [hg]; exact Nat.ne_of_gt (blk_lt (g := gb911) (o := .cells #[.int .i64 a0_0, .int .i64 a0_1, .int .i64 a0_2, .int .i64 a0_3] 148 (0, 0)) (by (with_reducible repeat (first | refine blk_drewN ?_ _ | refine blk_drew ?_ | refine blk_alloc ?_ _)); exact BK911.out)) : gb912 ≠ gb911)); clear BK911; clear HB; have BK911 := n0_; have HB := n1_; have BK912 := n2_; have GW912 := n3_; have GE912 := n4_; have NB911_912 := n5_; have NB912_911 := n6_; clear n0_ n1_ n2_ n3_ n4_ n5_ n6_; clear hb hbox hg; have hnb29 := NB911_912.out; have hnc29 := NB912_911.out; have hcz30_0 : w28.cell? ⟨gb911, 0, none⟩ = some (.int .i64 a0_0) := (blk_cell BK911.out 0).trans rfl; have hcz30_1 : w28.cell? ⟨gb911, 1, none⟩ = some (.int .i64 a0_1) := (blk_cell BK911.out 1).trans rfl; have hcz30_2 : w28.cell? ⟨gb911, 2, none⟩ = some (.int .i64 a0_2) := (blk_cell BK911.out 2).trans rfl; have hcz30_3 : w28.cell? ⟨gb911, 3, none⟩ = some (.int .i64 a0_3) := (blk_cell BK911.out 3).trans rfl; have hfz30_0 := blk_frozen BK911.out 0; have hfz30_1 := blk_frozen BK911.out 1; have hfz30_2 := blk_frozen BK911.out 2; have hfz30_3 := blk_frozen BK911.out 3; have hcz31_0 : w28.cell? ⟨gb912, 0, none⟩ = some (.int .i64 a1_0) := (blk_cell BK912.out 0).trans rfl; have hcz31_1 : w28.cell? ⟨gb912, 1, none⟩ = some (.int .i64 a1_1) := (blk_cell BK912.out 1).trans rfl; have hcz31_2 : w28.cell? ⟨gb912, 2, none⟩ = some (.int .i64 a1_2) := (blk_cell BK912.out 2).trans rfl; have hcz31_3 : w28.cell? ⟨gb912, 3, none⟩ = some (.int .i64 a1_3) := (blk_cell BK912.out 3).trans rfl; have hfz31_0 := blk_frozen BK912.out 0; have hfz31_1 := blk_frozen BK912.out 1; have hfz31_2 := blk_frozen BK912.out 2; have hfz31_3 := blk_frozen BK912.out 3))
    go_ret
    exact ⟨by first | rfl | (simp [errW_none, errW_some] <;> rfl) | (simp [*, errW_none, errW_some] <;> rfl) | (simp [Int.tdiv_eq_ediv_of_nonneg, *]; done), by repeat (first | (with_reducible first | exact HB.out | apply below_alloc | apply pw_below_drewN | apply below_drew1 | refine below_set ?_ GE911.out | refine below_set ?_ GE912.out) | exact HB.out)⟩

end Go.Proofs.Ytajndapolblhmab.P
-- Walks of this claim's functions, laid by a program of this session.
namespace Go.Proofs.Ytajndapolblhmab.P
open Go.RowKit Go.Proofs.YtajndapolblhmabW.PrintWords Go.Proofs.YtajndapolblhmabW.PrintLast Go.Proofs.YtajndapolblhmabW.PrintMore
attribute [local go_sem] max2_int min2_int max_two min_two max_three min_three max_four min_four   -- for this text's walks alone
set_option linter.unusedVariables false
set_option linter.unusedSimpArgs false

/-! ### laws_eqGroutS: function 59 -/
def laws_eqGroutS.l0 : Nat → List (S148) → List (S148) → Int → Option (Bool)
  | 0, _, _, _ => none
  | k + 1, x0, x1, x5 => if x5 < (x0.length : Int) then (if 0 ≤ x5 then (if x5 < (x1.length : Int) then ((laws_eqGrout.f ((rd_T148 x0 x5).f0) ((rd_T148 x0 x5).f1) ((rd_T148 x0 x5).f2) ((rd_T148 x0 x5).f3) ((rd_T148 x1 x5).f0) ((rd_T148 x1 x5).f1) ((rd_T148 x1 x5).f2) ((rd_T148 x1 x5).f3)).bind fun t915 => (if t915 = true then (laws_eqGroutS.l0 k x0 x1 (wrap64 (x5 + 1))) else (some false))) else (none)) else (none)) else (some true)
def laws_eqGroutS.f (k : Nat) (l0 : List (S148)) (l1 : List (S148)) : Option (Bool) := if (l0.length : Int) = (l1.length : Int) then (laws_eqGroutS.l0 k l0 l1 0) else (some false)
theorem laws_eqGroutS.mono_l : ∀ k, (∀ y0 y1 y2, LeO (laws_eqGroutS.l0 k y0 y1 y2) (laws_eqGroutS.l0 (k + 1) y0 y1 y2))
  | 0 => fun _ _ _ r h => by simp [laws_eqGroutS.l0] at h
  | k + 1 => by
    have ih0 := laws_eqGroutS.mono_l k
    · intro y0 y1 y2
      unfold laws_eqGroutS.l0
      repeat' first
      | (with_reducible exact ih0 _ _ _)
      | (with_reducible exact LeO.refl _)
      | (with_reducible exact LeO.none _)
      | (with_reducible refine LeO.ite ?_ ?_)
      | (with_reducible refine LeO.bind ?_ (fun _ => ?_))
      | exact ih0 _ _ _
      | exact LeO.none _
      | refine LeO.ite ?_ ?_
      | refine LeO.bind ?_ (fun _ => ?_)
theorem laws_eqGroutS.mono : ∀ a0 a1 k, LeO (laws_eqGroutS.f k a0 a1) (laws_eqGroutS.f (k + 1) a0 a1) := by
  intro a0 a1 k
  have ih0 := laws_eqGroutS.mono_l k
  unfold laws_eqGroutS.f
  repeat' first
      | (with_reducible exact ih0 _ _ _)
      | (with_reducible exact LeO.refl _)
      | (with_reducible exact LeO.none _)
      | (with_reducible refine LeO.ite ?_ ?_)
      | (with_reducible refine LeO.bind ?_ (fun _ => ?_))
      | exact ih0 _ _ _
      | exact LeO.none _
      | refine LeO.ite ?_ ?_
      | refine LeO.bind ?_ (fun _ => ?_)
def laws_eqGroutS.T6 : Bool × List (List Nat × List Nat) := (true, [([], []), ([], []), ([0, 1], [0, 1]), ([2], [2]), ([], []), ([], []), ([4, 5], [4, 5]), ([6], [6]), ([3, 7], [3, 7]), ([8], [8])])
def laws_eqGroutS.B6 : List Nat := [0, 0, 3, 7, 0, 0, 48, 112, 255, 511]
theorem laws_eqGroutS.tab6 : rtab .any (opsOf Try.f59 6) = laws_eqGroutS.T6 := by kernel_rfl
theorem laws_eqGroutS.bits6 : waitsOk laws_eqGroutS.T6.2 laws_eqGroutS.B6 = true := by kernel_rfl
set_option maxHeartbeats 8000000 in
set_option maxRecDepth 100000 in
theorem laws_eqGroutS.calls (k : Nat) (A0 : Option Addr) (c0 : Nat) (l0 : List (S148)) (A1 : Option Addr) (c1 : Nat) (l1 : List (S148)) (r : Bool) (w : World) (hr0 : Kd.C k148 w A0 l0.length l0) (hc0 : l0.length ≤ c0) (hr1 : Kd.C k148 w A1 l1.length l1) (hc1 : l1.length ≤ c1) (h : laws_eqGroutS.f k l0 l1 = some r) :
    Calls Try.prog 59 #[.slice A0 l0.length c0, .slice A1 l1.length c1] w fun e w' => e = .returned (.bool r) ∧ Below w.heap.size w w' := by
  have hu148 := Try.underlying148
  have HR0 := Aside0.mk hr0
  have HC0 := Aside0.mk hc0
  clear hr0 hc0
  have HR1 := Aside0.mk hr1
  have HC1 := Aside0.mk hc1
  clear hr1 hc1
  have HB := Aside0.mk (Below.refl w.heap.size w)
  have H : (if (l0.length : Int) = (l1.length : Int) then (laws_eqGroutS.l0 k l0 l1 0) else (some false)) = some r := h
  clear h
  by_cases c3 : (l0.length : Int) = (l1.length : Int)
  · rw [if_pos c3] at H
    have c3b0 : ((l0.length : Int) == (l1.length : Int)) = true := beq_iff_eq.mpr c3
    have c3b1 : ((l0.length : Int) != (l1.length : Int)) = false := bne_eq_false_iff_eq.mpr c3
    have c3b2 : (l0.length == l1.length) = true := by first | simpa using c3 | (simp at c3 ⊢; omega)
    clear c3
    have H' := Aside0.mk H
    clear H
    go_enter Try.func59, Try.ntmps59
    go_wp2
    go_loopg [5] k (fun kq v5 w' => ∃ (x5_1 : Int), v5 = .int .i64 x5_1 ∧ Aside0 (laws_eqGroutS.l0 kq l0 l1 x5_1 = some r) ∧ Aside0 (kq ≤ k) ∧ Aside0 (Below w.heap.size w w'))
    case atStart => exact ⟨(0), (by first | rfl | (simp; done) | (simp [*]; done) | (simp [Int.tdiv_eq_ediv_of_nonneg, *]; done)), H', ⟨Nat.le_refl _⟩, ⟨by repeat (first | (with_reducible first | exact HB.out | apply below_alloc | apply pw_below_drewN | apply below_drew1) | exact HB.out)⟩⟩
    case round =>
      clear H'
      try clear c1
      try clear p2
      try clear c3
      try clear c3b0
      try clear c3b1
      try clear c3b2
      obtain ⟨x5_1, rfl, HA, HK1, HB⟩ := hrel
      cases gk with
      | zero => exact absurd HA.out (by simp [laws_eqGroutS.l0])
      | succ k1 =>
        have H := HA.out
        clear HA
        simp only [laws_eqGroutS.l0] at H
        by_cases c4 : x5_1 < (l0.length : Int)
        · rw [if_pos c4] at H
          have c4b0 : decide (x5_1 < (l0.length : Int)) = true := decide_eq_true c4
          clear c4
          by_cases c5 : 0 ≤ x5_1
          · rw [if_pos c5] at H
            have c5b0 : decide (0 ≤ x5_1) = true := decide_eq_true c5
            clear c5
            by_cases c6 : x5_1 < (l1.length : Int)
            · rw [if_pos c6] at H
              have c6b0 : decide (x5_1 < (l1.length : Int)) = true := decide_eq_true c6
              clear c6
              replace H := Option.bind_eq_some_iff.mp H
              obtain ⟨t915, A70, H⟩ := H
              replace H : (if t915 = true then (laws_eqGroutS.l0 k1 l0 l1 (wrap64 (x5_1 + 1))) else (some false)) = some r := H
              have A7 := Aside0.mk A70
              clear A70
              by_cases c8 : t915 = true
              · subst c8
                have H1 : (laws_eqGroutS.l0 k1 l0 l1 (wrap64 (x5_1 + 1))) = some r := by rw [if_pos rfl] at H; exact H
                clear H
                have H := H1
                clear H1
                have H' := Aside0.mk H
                clear H
                try go_wp2
                have n0_ := Aside0.mk (below_drew1 HB.out)
                clear HB
                have HB := n0_
                clear n0_
                have p913 : 0 ≤ (x5_1 : Int) := of_decide_eq_true (by first | (with_reducible assumption) | assumption)
                have q913 : x5_1 < (l0.length : Int) := of_decide_eq_true (by first | (with_reducible assumption) | assumption)
                obtain ⟨ad913, e913, hx913_0, hx913_1, hx913_2, hx913_3⟩ := at_T148 HR0.out x5_1 p913 q913
                have hw913_3 := hx913_3
                have hw913_2 := hx913_2
                have hw913_1 := hx913_1
                have hw913_0 := hx913_0
                cases e913
                replace hx913_0 := (HB.out.cell (World.block_lt_of_cell? w _ hx913_0)).trans hx913_0
                replace hx913_1 := (HB.out.cell (World.block_lt_of_cell? w _ hx913_1)).trans hx913_1
                replace hx913_2 := (HB.out.cell (World.block_lt_of_cell? w _ hx913_2)).trans hx913_2
                replace hx913_3 := (HB.out.cell (World.block_lt_of_cell? w _ hx913_3)).trans hx913_3
                replace p913 := eq_true p913
                replace q913 := eq_true q913
                have p914 : 0 ≤ (x5_1 : Int) := of_decide_eq_true (by first | (with_reducible assumption) | assumption)
                have q914 : x5_1 < (l1.length : Int) := of_decide_eq_true (by first | (with_reducible assumption) | assumption)
                obtain ⟨ad914, e914, hx914_0, hx914_1, hx914_2, hx914_3⟩ := at_T148 HR1.out x5_1 p914 q914
                have hw914_3 := hx914_3
                have hw914_2 := hx914_2
                have hw914_1 := hx914_1
                have hw914_0 := hx914_0
                cases e914
                replace hx914_0 := (HB.out.cell (World.block_lt_of_cell? w _ hx914_0)).trans hx914_0
                replace hx914_1 := (HB.out.cell (World.block_lt_of_cell? w _ hx914_1)).trans hx914_1
                replace hx914_2 := (HB.out.cell (World.block_lt_of_cell? w _ hx914_2)).trans hx914_2
                replace hx914_3 := (HB.out.cell (World.block_lt_of_cell? w _ hx914_3)).trans hx914_3
                replace p914 := eq_true p914
                replace q914 := eq_true q914
                refine start_ (n := 10) (S := fun w' => w'.cell? (ad913.add ((x5_1).toNat * 4)) = some (.int .i64 ((rd_T148 l0 x5_1).f0)) ∧ w'.cell? ⟨(ad913.add ((x5_1).toNat * 4)).block, (ad913.add ((x5_1).toNat * 4)).off + 1, none⟩ = some (.int .i64 ((rd_T148 l0 x5_1).f1)) ∧ w'.cell? ⟨(ad913.add ((x5_1).toNat * 4)).block, (ad913.add ((x5_1).toNat * 4)).off + 2, none⟩ = some (.int .i64 ((rd_T148 l0 x5_1).f2)) ∧ w'.cell? ⟨(ad913.add ((x5_1).toNat * 4)).block, (ad913.add ((x5_1).toNat * 4)).off + 3, none⟩ = some (.int .i64 ((rd_T148 l0 x5_1).f3)) ∧ w'.cell? (ad914.add ((x5_1).toNat * 4)) = some (.int .i64 ((rd_T148 l1 x5_1).f0)) ∧ w'.cell? ⟨(ad914.add ((x5_1).toNat * 4)).block, (ad914.add ((x5_1).toNat * 4)).off + 1, none⟩ = some (.int .i64 ((rd_T148 l1 x5_1).f1)) ∧ w'.cell? ⟨(ad914.add ((x5_1).toNat * 4)).block, (ad914.add ((x5_1).toNat * 4)).off + 2, none⟩ = some (.int .i64 ((rd_T148 l1 x5_1).f2)) ∧ w'.cell? ⟨(ad914.add ((x5_1).toNat * 4)).block, (ad914.add ((x5_1).toNat * 4)).off + 3, none⟩ = some (.int .i64 ((rd_T148 l1 x5_1).f3))) (ds := []) #[false, false, false, false, false, false, false, false, false, false] (by kernel_rfl) rfl rfl ⟨((HB.out.cell (World.block_lt_of_cell? w _ hw913_0)).trans hw913_0), ((HB.out.cell (World.block_lt_of_cell? w _ hw913_1)).trans hw913_1), ((HB.out.cell (World.block_lt_of_cell? w _ hw913_2)).trans hw913_2), ((HB.out.cell (World.block_lt_of_cell? w _ hw913_3)).trans hw913_3), ((HB.out.cell (World.block_lt_of_cell? w _ hw914_0)).trans hw914_0), ((HB.out.cell (World.block_lt_of_cell? w _ hw914_1)).trans hw914_1), ((HB.out.cell (World.block_lt_of_cell? w _ hw914_2)).trans hw914_2), ((HB.out.cell (World.block_lt_of_cell? w _ hw914_3)).trans hw914_3)⟩ (fun hHeld => ?_); refine with_tabW laws_eqGroutS.tab6 laws_eqGroutS.bits6 (fun HT_ HW_ => ?_)
                generalize wr.drew = w9 at HB hx913_0 hx913_1 hx913_2 hx913_3 hx914_0 hx914_1 hx914_2 hx914_3 hHeld ⊢
                refine pure_ (i := 0) (N := some 17) (v := ?_) (a' := ?_) #[true, false, false, false, false, false, false, false, false, false] rfl rfl (any_of HT_.out (by kernel_rfl)) (fun _ _ _ h => h) (Or.inl ⟨by rfl, ?_⟩) ?_ ?_
                rotate_left
                · intro w'
                  go_simp
                  with_reducible rfl
                rotate_left
                · simp only [Act.put, List.setIfInBounds_toArray, List.set_cons_zero, List.set_cons_succ, i64_w, i32_w]
                  rfl
                refine pure_ (i := 1) (N := some 18) (v := ?_) (a' := ?_) #[true, true, false, false, false, false, false, false, false, false] rfl rfl (any_of HT_.out (by kernel_rfl)) (fun _ _ _ h => h) (Or.inl ⟨by rfl, ?_⟩) ?_ ?_
                rotate_left
                · intro w'
                  go_simp
                  with_reducible rfl
                rotate_left
                · simp only [Act.put, List.setIfInBounds_toArray, List.set_cons_zero, List.set_cons_succ, i64_w, i32_w]
                  rfl
                refine pure_ (i := 2) (N := some 19) (v := ?_) (a' := ?_) #[true, true, true, false, false, false, false, false, false, false] rfl rfl (any_of HT_.out (by kernel_rfl)) (fun _ _ _ h => h) (Or.inl ⟨by rfl, ?_⟩) ?_ ?_
                rotate_left
                · intro w'
                  go_simp
                  with_reducible rfl
                rotate_left
                · simp only [Act.put, List.setIfInBounds_toArray, List.set_cons_zero, List.set_cons_succ, i64_w, i32_w]
                  rfl
                refine pure_ (i := 4) (N := some 21) (v := ?_) (a' := ?_) #[true, true, true, false, true, false, false, false, false, false] rfl rfl (any_of HT_.out (by kernel_rfl)) (fun _ _ _ h => h) (Or.inl ⟨by rfl, ?_⟩) ?_ ?_
                rotate_left
                · intro w'
                  go_simp
                  with_reducible rfl
                rotate_left
                · simp only [Act.put, List.setIfInBounds_toArray, List.set_cons_zero, List.set_cons_succ, i64_w, i32_w]
                  rfl
                refine pure_ (i := 5) (N := some 22) (v := ?_) (a' := ?_) #[true, true, true, false, true, true, false, false, false, false] rfl rfl (any_of HT_.out (by kernel_rfl)) (fun _ _ _ h => h) (Or.inl ⟨by rfl, ?_⟩) ?_ ?_
                rotate_left
                · intro w'
                  go_simp
                  with_reducible rfl
                rotate_left
                · simp only [Act.put, List.setIfInBounds_toArray, List.set_cons_zero, List.set_cons_succ, i64_w, i32_w]
                  rfl
                refine pure_ (i := 6) (N := some 23) (v := ?_) (a' := ?_) #[true, true, true, false, true, true, true, false, false, false] rfl rfl (any_of HT_.out (by kernel_rfl)) (fun _ _ _ h => h) (Or.inl ⟨by rfl, ?_⟩) ?_ ?_
                rotate_left
                · intro w'
                  go_simp
                  with_reducible rfl
                rotate_left
                · simp only [Act.put, List.setIfInBounds_toArray, List.set_cons_zero, List.set_cons_succ, i64_w, i32_w]
                  rfl
                refine take_ (i := 3) (N := some 20) (v := ?_) (a' := ?_) #[true, true, true, true, true, true, true, false, false, false] rfl rfl (take_ofW HT_.out HW_.out (by kernel_rfl)) (fun _ _ _ h => h) (Or.inl ⟨by rfl, ?_⟩) hHeld ?_ ?_
                rotate_left
                · rintro w' ⟨s0, s1, s2, s3, s4, s5, s6, s7⟩
                  go_simp
                  with_reducible rfl
                rotate_left
                · simp only [Act.put, List.setIfInBounds_toArray, List.set_cons_zero, List.set_cons_succ, i64_w, i32_w]
                  rfl
                refine take_ (i := 7) (N := some 24) (v := ?_) (a' := ?_) #[true, true, true, true, true, true, true, true, false, false] rfl rfl (take_ofW HT_.out HW_.out (by kernel_rfl)) (fun _ _ _ h => h) (Or.inl ⟨by rfl, ?_⟩) hHeld ?_ ?_
                rotate_left
                · rintro w' ⟨s0, s1, s2, s3, s4, s5, s6, s7⟩
                  go_simp
                  with_reducible rfl
                rotate_left
                · simp only [Act.put, List.setIfInBounds_toArray, List.set_cons_zero, List.set_cons_succ, i64_w, i32_w]
                  rfl
                refine one_ (i := 8) (N := some 25) #[true, true, true, true, true, true, true, true, true, false] rfl rfl (one_of HT_.out (by kernel_rfl)) (by decide) (fun K hK => ?_)
                refine goes_ Try.func117 (by kernel_rfl) rfl #[.agg #[.int .i64 ((rd_T148 l0 x5_1).f0), .int .i64 ((rd_T148 l0 x5_1).f1), .int .i64 ((rd_T148 l0 x5_1).f2), .int .i64 ((rd_T148 l0 x5_1).f3)], .agg #[.int .i64 ((rd_T148 l1 x5_1).f0), .int .i64 ((rd_T148 l1 x5_1).f1), .int .i64 ((rd_T148 l1 x5_1).f2), .int .i64 ((rd_T148 l1 x5_1).f3)]] (by rfl) rfl rfl (by (try simp only [List.map_toArray, List.map_cons, List.map_nil]); first | done | rfl | (simp only [List.length_drop, List.length_take]; rfl)) ?_
                with_reducible refine (laws_eqGrout.calls ((rd_T148 l0 x5_1).f0) ((rd_T148 l0 x5_1).f1) ((rd_T148 l0 x5_1).f2) ((rd_T148 l0 x5_1).f3) ((rd_T148 l1 x5_1).f0) ((rd_T148 l1 x5_1).f1) ((rd_T148 l1 x5_1).f2) ((rd_T148 l1 x5_1).f3) true _ A7.out).mono ?_
                rintro e w10 ⟨rfl, hb⟩
                refine ⟨_, rfl, ?_⟩
                have n0_ := Aside0.mk (below_step (by repeat (first | (with_reducible first | exact HB.out | apply below_alloc | apply pw_below_drewN | apply below_drew1) | exact HB.out)) hb)
                clear HB
                have HB := n0_
                clear n0_
                (try clear hb)
                (try clear hb2)
                (try clear hk)
                (try clear hi)
                refine hK.out _ _ ⟨((HB.out.cell (World.block_lt_of_cell? w _ hw913_0)).trans hw913_0), ((HB.out.cell (World.block_lt_of_cell? w _ hw913_1)).trans hw913_1), ((HB.out.cell (World.block_lt_of_cell? w _ hw913_2)).trans hw913_2), ((HB.out.cell (World.block_lt_of_cell? w _ hw913_3)).trans hw913_3), ((HB.out.cell (World.block_lt_of_cell? w _ hw914_0)).trans hw914_0), ((HB.out.cell (World.block_lt_of_cell? w _ hw914_1)).trans hw914_1), ((HB.out.cell (World.block_lt_of_cell? w _ hw914_2)).trans hw914_2), ((HB.out.cell (World.block_lt_of_cell? w _ hw914_3)).trans hw914_3)⟩ (fun hHeld => ?_)
                clear hK K
                refine norm_ (a' := ?_) ?_ ?_
                rotate_left
                · show Act.put _ (some 25) _ = _
                  simp only [Act.put, List.setIfInBounds_toArray, List.set_cons_zero, List.set_cons_succ, i64_w, i32_w]
                  rfl
                refine pure_ (i := 9) (N := some 26) (v := ?_) (a' := ?_) #[true, true, true, true, true, true, true, true, true, true] rfl rfl (any_of HT_.out (by kernel_rfl)) (fun _ _ _ h => h) (Or.inl ⟨by rfl, ?_⟩) ?_ ?_
                rotate_left
                · intro w'
                  go_simp
                  with_reducible rfl
                rotate_left
                · simp only [Act.put, List.setIfInBounds_toArray, List.set_cons_zero, List.set_cons_succ, i64_w, i32_w]
                  rfl
                refine done_ (done_of HT_.out (by kernel_rfl)) ?_
                try go_wp2
                go_roundg k1
                case measure => have := HK1.out; omega
                case rel => exact ⟨(wrap64 (x5_1 + 1)), (by first | rfl | (simp; done) | (simp [*]; done) | (simp [Int.tdiv_eq_ediv_of_nonneg, *]; done)), H', ⟨by have := HK1.out; omega⟩, ⟨by repeat (first | (with_reducible first | exact HB.out | apply below_alloc | apply pw_below_drewN | apply below_drew1) | exact HB.out)⟩⟩
              · replace c8 := Bool.eq_false_iff.mpr c8
                subst c8
                have H1 : (some false) = some r := by rw [if_neg (show ¬ (false = true) by decide)] at H; exact H
                clear H
                have H := H1
                clear H1
                obtain rfl := Option.some.inj H
                try go_wp2
                have n0_ := Aside0.mk (below_drew1 HB.out)
                clear HB
                have HB := n0_
                clear n0_
                have p913 : 0 ≤ (x5_1 : Int) := of_decide_eq_true (by first | (with_reducible assumption) | assumption)
                have q913 : x5_1 < (l0.length : Int) := of_decide_eq_true (by first | (with_reducible assumption) | assumption)
                obtain ⟨ad913, e913, hx913_0, hx913_1, hx913_2, hx913_3⟩ := at_T148 HR0.out x5_1 p913 q913
                have hw913_3 := hx913_3
                have hw913_2 := hx913_2
                have hw913_1 := hx913_1
                have hw913_0 := hx913_0
                cases e913
                replace hx913_0 := (HB.out.cell (World.block_lt_of_cell? w _ hx913_0)).trans hx913_0
                replace hx913_1 := (HB.out.cell (World.block_lt_of_cell? w _ hx913_1)).trans hx913_1
                replace hx913_2 := (HB.out.cell (World.block_lt_of_cell? w _ hx913_2)).trans hx913_2
                replace hx913_3 := (HB.out.cell (World.block_lt_of_cell? w _ hx913_3)).trans hx913_3
                replace p913 := eq_true p913
                replace q913 := eq_true q913
                have p914 : 0 ≤ (x5_1 : Int) := of_decide_eq_true (by first | (with_reducible assumption) | assumption)
                have q914 : x5_1 < (l1.length : Int) := of_decide_eq_true (by first | (with_reducible assumption) | assumption)
                obtain ⟨ad914, e914, hx914_0, hx914_1, hx914_2, hx914_3⟩ := at_T148 HR1.out x5_1 p914 q914
                have hw914_3 := hx914_3
                have hw914_2 := hx914_2
                have hw914_1 := hx914_1
                have hw914_0 := hx914_0
                cases e914
                replace hx914_0 := (HB.out.cell (World.block_lt_of_cell? w _ hx914_0)).trans hx914_0
                replace hx914_1 := (HB.out.cell (World.block_lt_of_cell? w _ hx914_1)).trans hx914_1
                replace hx914_2 := (HB.out.cell (World.block_lt_of_cell? w _ hx914_2)).trans hx914_2
                replace hx914_3 := (HB.out.cell (World.block_lt_of_cell? w _ hx914_3)).trans hx914_3
                replace p914 := eq_true p914
                replace q914 := eq_true q914
                refine start_ (n := 10) (S := fun w' => w'.cell? (ad913.add ((x5_1).toNat * 4)) = some (.int .i64 ((rd_T148 l0 x5_1).f0)) ∧ w'.cell? ⟨(ad913.add ((x5_1).toNat * 4)).block, (ad913.add ((x5_1).toNat * 4)).off + 1, none⟩ = some (.int .i64 ((rd_T148 l0 x5_1).f1)) ∧ w'.cell? ⟨(ad913.add ((x5_1).toNat * 4)).block, (ad913.add ((x5_1).toNat * 4)).off + 2, none⟩ = some (.int .i64 ((rd_T148 l0 x5_1).f2)) ∧ w'.cell? ⟨(ad913.add ((x5_1).toNat * 4)).block, (ad913.add ((x5_1).toNat * 4)).off + 3, none⟩ = some (.int .i64 ((rd_T148 l0 x5_1).f3)) ∧ w'.cell? (ad914.add ((x5_1).toNat * 4)) = some (.int .i64 ((rd_T148 l1 x5_1).f0)) ∧ w'.cell? ⟨(ad914.add ((x5_1).toNat * 4)).block, (ad914.add ((x5_1).toNat * 4)).off + 1, none⟩ = some (.int .i64 ((rd_T148 l1 x5_1).f1)) ∧ w'.cell? ⟨(ad914.add ((x5_1).toNat * 4)).block, (ad914.add ((x5_1).toNat * 4)).off + 2, none⟩ = some (.int .i64 ((rd_T148 l1 x5_1).f2)) ∧ w'.cell? ⟨(ad914.add ((x5_1).toNat * 4)).block, (ad914.add ((x5_1).toNat * 4)).off + 3, none⟩ = some (.int .i64 ((rd_T148 l1 x5_1).f3))) (ds := []) #[false, false, false, false, false, false, false, false, false, false] (by kernel_rfl) rfl rfl ⟨((HB.out.cell (World.block_lt_of_cell? w _ hw913_0)).trans hw913_0), ((HB.out.cell (World.block_lt_of_cell? w _ hw913_1)).trans hw913_1), ((HB.out.cell (World.block_lt_of_cell? w _ hw913_2)).trans hw913_2), ((HB.out.cell (World.block_lt_of_cell? w _ hw913_3)).trans hw913_3), ((HB.out.cell (World.block_lt_of_cell? w _ hw914_0)).trans hw914_0), ((HB.out.cell (World.block_lt_of_cell? w _ hw914_1)).trans hw914_1), ((HB.out.cell (World.block_lt_of_cell? w _ hw914_2)).trans hw914_2), ((HB.out.cell (World.block_lt_of_cell? w _ hw914_3)).trans hw914_3)⟩ (fun hHeld => ?_); refine with_tabW laws_eqGroutS.tab6 laws_eqGroutS.bits6 (fun HT_ HW_ => ?_)
                generalize wr.drew = w11 at HB hx913_0 hx913_1 hx913_2 hx913_3 hx914_0 hx914_1 hx914_2 hx914_3 hHeld ⊢
                refine pure_ (i := 0) (N := some 17) (v := ?_) (a' := ?_) #[true, false, false, false, false, false, false, false, false, false] rfl rfl (any_of HT_.out (by kernel_rfl)) (fun _ _ _ h => h) (Or.inl ⟨by rfl, ?_⟩) ?_ ?_
                rotate_left
                · intro w'
                  go_simp
                  with_reducible rfl
                rotate_left
                · simp only [Act.put, List.setIfInBounds_toArray, List.set_cons_zero, List.set_cons_succ, i64_w, i32_w]
                  rfl
                refine pure_ (i := 1) (N := some 18) (v := ?_) (a' := ?_) #[true, true, false, false, false, false, false, false, false, false] rfl rfl (any_of HT_.out (by kernel_rfl)) (fun _ _ _ h => h) (Or.inl ⟨by rfl, ?_⟩) ?_ ?_
                rotate_left
                · intro w'
                  go_simp
                  with_reducible rfl
                rotate_left
                · simp only [Act.put, List.setIfInBounds_toArray, List.set_cons_zero, List.set_cons_succ, i64_w, i32_w]
                  rfl
                refine pure_ (i := 2) (N := some 19) (v := ?_) (a' := ?_) #[true, true, true, false, false, false, false, false, false, false] rfl rfl (any_of HT_.out (by kernel_rfl)) (fun _ _ _ h => h) (Or.inl ⟨by rfl, ?_⟩) ?_ ?_
                rotate_left
                · intro w'
                  go_simp
                  with_reducible rfl
                rotate_left
                · simp only [Act.put, List.setIfInBounds_toArray, List.set_cons_zero, List.set_cons_succ, i64_w, i32_w]
                  rfl
                refine pure_ (i := 4) (N := some 21) (v := ?_) (a' := ?_) #[true, true, true, false, true, false, false, false, false, false] rfl rfl (any_of HT_.out (by kernel_rfl)) (fun _ _ _ h => h) (Or.inl ⟨by rfl, ?_⟩) ?_ ?_
                rotate_left
                · intro w'
                  go_simp
                  with_reducible rfl
                rotate_left
                · simp only [Act.put, List.setIfInBounds_toArray, List.set_cons_zero, List.set_cons_succ, i64_w, i32_w]
                  rfl
                refine pure_ (i := 5) (N := some 22) (v := ?_) (a' := ?_) #[true, true, true, false, true, true, false, false, false, false] rfl rfl (any_of HT_.out (by kernel_rfl)) (fun _ _ _ h => h) (Or.inl ⟨by rfl, ?_⟩) ?_ ?_
                rotate_left
                · intro w'
                  go_simp
                  with_reducible rfl
                rotate_left
                · simp only [Act.put, List.setIfInBounds_toArray, List.set_cons_zero, List.set_cons_succ, i64_w, i32_w]
                  rfl
                refine pure_ (i := 6) (N := some 23) (v := ?_) (a' := ?_) #[true, true, true, false, true, true, true, false, false, false] rfl rfl (any_of HT_.out (by kernel_rfl)) (fun _ _ _ h => h) (Or.inl ⟨by rfl, ?_⟩) ?_ ?_
                rotate_left
                · intro w'
                  go_simp
                  with_reducible rfl
                rotate_left
                · simp only [Act.put, List.setIfInBounds_toArray, List.set_cons_zero, List.set_cons_succ, i64_w, i32_w]
                  rfl
                refine take_ (i := 3) (N := some 20) (v := ?_) (a' := ?_) #[true, true, true, true, true, true, true, false, false, false] rfl rfl (take_ofW HT_.out HW_.out (by kernel_rfl)) (fun _ _ _ h => h) (Or.inl ⟨by rfl, ?_⟩) hHeld ?_ ?_
                rotate_left
                · rintro w' ⟨s0, s1, s2, s3, s4, s5, s6, s7⟩
                  go_simp
                  with_reducible rfl
                rotate_left
                · simp only [Act.put, List.setIfInBounds_toArray, List.set_cons_zero, List.set_cons_succ, i64_w, i32_w]
                  rfl
                refine take_ (i := 7) (N := some 24) (v := ?_) (a' := ?_) #[true, true, true, true, true, true, true, true, false, false] rfl rfl (take_ofW HT_.out HW_.out (by kernel_rfl)) (fun _ _ _ h => h) (Or.inl ⟨by rfl, ?_⟩) hHeld ?_ ?_
                rotate_left
                · rintro w' ⟨s0, s1, s2, s3, s4, s5, s6, s7⟩
                  go_simp
                  with_reducible rfl
                rotate_left
                · simp only [Act.put, List.setIfInBounds_toArray, List.set_cons_zero, List.set_cons_succ, i64_w, i32_w]
                  rfl
                refine one_ (i := 8) (N := some 25) #[true, true, true, true, true, true, true, true, true, false] rfl rfl (one_of HT_.out (by kernel_rfl)) (by decide) (fun K hK => ?_)
                refine goes_ Try.func117 (by kernel_rfl) rfl #[.agg #[.int .i64 ((rd_T148 l0 x5_1).f0), .int .i64 ((rd_T148 l0 x5_1).f1), .int .i64 ((rd_T148 l0 x5_1).f2), .int .i64 ((rd_T148 l0 x5_1).f3)], .agg #[.int .i64 ((rd_T148 l1 x5_1).f0), .int .i64 ((rd_T148 l1 x5_1).f1), .int .i64 ((rd_T148 l1 x5_1).f2), .int .i64 ((rd_T148 l1 x5_1).f3)]] (by rfl) rfl rfl (by (try simp only [List.map_toArray, List.map_cons, List.map_nil]); first | done | rfl | (simp only [List.length_drop, List.length_take]; rfl)) ?_
                with_reducible refine (laws_eqGrout.calls ((rd_T148 l0 x5_1).f0) ((rd_T148 l0 x5_1).f1) ((rd_T148 l0 x5_1).f2) ((rd_T148 l0 x5_1).f3) ((rd_T148 l1 x5_1).f0) ((rd_T148 l1 x5_1).f1) ((rd_T148 l1 x5_1).f2) ((rd_T148 l1 x5_1).f3) false _ A7.out).mono ?_
                rintro e w12 ⟨rfl, hb⟩
                refine ⟨_, rfl, ?_⟩
                have n0_ := Aside0.mk (below_step (by repeat (first | (with_reducible first | exact HB.out | apply below_alloc | apply pw_below_drewN | apply below_drew1) | exact HB.out)) hb)
                clear HB
                have HB := n0_
                clear n0_
                (try clear hb)
                (try clear hb2)
                (try clear hk)
                (try clear hi)
                refine hK.out _ _ ⟨((HB.out.cell (World.block_lt_of_cell? w _ hw913_0)).trans hw913_0), ((HB.out.cell (World.block_lt_of_cell? w _ hw913_1)).trans hw913_1), ((HB.out.cell (World.block_lt_of_cell? w _ hw913_2)).trans hw913_2), ((HB.out.cell (World.block_lt_of_cell? w _ hw913_3)).trans hw913_3), ((HB.out.cell (World.block_lt_of_cell? w _ hw914_0)).trans hw914_0), ((HB.out.cell (World.block_lt_of_cell? w _ hw914_1)).trans hw914_1), ((HB.out.cell (World.block_lt_of_cell? w _ hw914_2)).trans hw914_2), ((HB.out.cell (World.block_lt_of_cell? w _ hw914_3)).trans hw914_3)⟩ (fun hHeld => ?_)
                clear hK K
                refine norm_ (a' := ?_) ?_ ?_
                rotate_left
                · show Act.put _ (some 25) _ = _
                  simp only [Act.put, List.setIfInBounds_toArray, List.set_cons_zero, List.set_cons_succ, i64_w, i32_w]
                  rfl
                refine pure_ (i := 9) (N := some 26) (v := ?_) (a' := ?_) #[true, true, true, true, true, true, true, true, true, true] rfl rfl (any_of HT_.out (by kernel_rfl)) (fun _ _ _ h => h) (Or.inl ⟨by rfl, ?_⟩) ?_ ?_
                rotate_left
                · intro w'
                  go_simp
                  with_reducible rfl
                rotate_left
                · simp only [Act.put, List.setIfInBounds_toArray, List.set_cons_zero, List.set_cons_succ, i64_w, i32_w]
                  rfl
                refine done_ (done_of HT_.out (by kernel_rfl)) ?_
                try go_wp2
                go_ret
                exact ⟨by first | rfl | (simp [errW_none, errW_some] <;> rfl) | (simp [*, errW_none, errW_some] <;> rfl) | (simp [Int.tdiv_eq_ediv_of_nonneg, *]; done), by repeat (first | (with_reducible first | exact HB.out | apply below_alloc | apply pw_below_drewN | apply below_drew1) | exact HB.out)⟩
            · rw [if_neg c6] at H
              exact absurd H (by simp)
          · rw [if_neg c5] at H
            exact absurd H (by simp)
        · rw [if_neg c4] at H
          have c4b0 : decide (x5_1 < (l0.length : Int)) = false := decide_eq_false c4
          clear c4
          obtain rfl := Option.some.inj H
          go_wp2
          go_ret
          exact ⟨by first | rfl | (simp [errW_none, errW_some] <;> rfl) | (simp [*, errW_none, errW_some] <;> rfl) | (simp [Int.tdiv_eq_ediv_of_nonneg, *]; done), by repeat (first | (with_reducible first | exact HB.out | apply below_alloc | apply pw_below_drewN | apply below_drew1) | exact HB.out)⟩
  · rw [if_neg c3] at H
    have c3b0 : ((l0.length : Int) == (l1.length : Int)) = false := beq_eq_false_iff_ne.mpr c3
    have c3b1 : ((l0.length : Int) != (l1.length : Int)) = true := bne_iff_ne.mpr c3
    have c3b2 : (l0.length == l1.length) = false := by first | simpa using c3 | (simp at c3 ⊢; omega)
    obtain rfl := Option.some.inj H
    go_enter Try.func59, Try.ntmps59
    go_wp2
    go_ret
    exact ⟨by first | rfl | (simp [errW_none, errW_some] <;> rfl) | (simp [*, errW_none, errW_some] <;> rfl) | (simp [Int.tdiv_eq_ediv_of_nonneg, *]; done), by repeat (first | (with_reducible first | exact HB.out | apply below_alloc | apply pw_below_drewN | apply below_drew1) | exact HB.out)⟩

/-! ### laws_markGroutS: function 60 -/
def laws_markGroutS.l0 : Nat → List (S148) → Int → Int → Option (Int × (List (S148)))
  | 0, _, _, _ => none
  | k + 1, x0, x1, x5 => if x5 < (x0.length : Int) then (if 0 ≤ x5 then ((some (x0.set (x5 : Int).toNat (⟨x1, (rd_T148 x0 x5).f1, (rd_T148 x0 x5).f2, (rd_T148 x0 x5).f3⟩ : S148) : List (S148))).bind fun y916 => ((some (y916.set (x5 : Int).toNat (⟨(rd_T148 y916 x5).f0, wrap64 (x1 + 1), (rd_T148 y916 x5).f2, (rd_T148 y916 x5).f3⟩ : S148) : List (S148))).bind fun y917 => ((some (y917.set (x5 : Int).toNat (⟨(rd_T148 y917 x5).f0, (rd_T148 y917 x5).f1, wrap64 ((wrap64 (x1 + 1)) + 1), (rd_T148 y917 x5).f3⟩ : S148) : List (S148))).bind fun y918 => (laws_markGroutS.l0 k (y918.set (x5 : Int).toNat (⟨(rd_T148 y918 x5).f0, (rd_T148 y918 x5).f1, (rd_T148 y918 x5).f2, wrap64 ((wrap64 ((wrap64 (x1 + 1)) + 1)) + 1)⟩ : S148)) (wrap64 ((wrap64 ((wrap64 ((wrap64 (x1 + 1)) + 1)) + 1)) + 1)) (wrap64 (x5 + 1)))))) else (none)) else (some (x1, x0))
def laws_markGroutS.f (k : Nat) (l0 : List (S148)) (a1 : Int) : Option (Int × (List (S148))) := laws_markGroutS.l0 k l0 a1 0
theorem laws_markGroutS.mono_l : ∀ k, (∀ y0 y1 y2, LeO (laws_markGroutS.l0 k y0 y1 y2) (laws_markGroutS.l0 (k + 1) y0 y1 y2))
  | 0 => fun _ _ _ r h => by simp [laws_markGroutS.l0] at h
  | k + 1 => by
    have ih0 := laws_markGroutS.mono_l k
    · intro y0 y1 y2
      unfold laws_markGroutS.l0
      repeat' first
      | (with_reducible exact ih0 _ _ _)
      | (with_reducible exact LeO.refl _)
      | (with_reducible exact LeO.none _)
      | (with_reducible refine LeO.ite ?_ ?_)
      | (with_reducible refine LeO.bind ?_ (fun _ => ?_))
      | exact ih0 _ _ _
      | exact LeO.none _
      | refine LeO.ite ?_ ?_
      | refine LeO.bind ?_ (fun _ => ?_)
theorem laws_markGroutS.mono : ∀ a0 a1 k, LeO (laws_markGroutS.f k a0 a1) (laws_markGroutS.f (k + 1) a0 a1) := by
  intro a0 a1 k
  have ih0 := laws_markGroutS.mono_l k
  unfold laws_markGroutS.f
  repeat' first
      | (with_reducible exact ih0 _ _ _)
      | (with_reducible exact LeO.refl _)
      | (with_reducible exact LeO.none _)
      | (with_reducible refine LeO.ite ?_ ?_)
      | (with_reducible refine LeO.bind ?_ (fun _ => ?_))
      | exact ih0 _ _ _
      | exact LeO.none _
      | refine LeO.ite ?_ ?_
      | refine LeO.bind ?_ (fun _ => ?_)
set_option maxHeartbeats 8000000 in
set_option maxRecDepth 100000 in
theorem laws_markGroutS.calls (k : Nat) (P0_ : Nat → Prop) (u9000_ : Value) (l0 : List (S148)) (a1 : Int) (r1 : Int) (r2 : List (S148)) (w0 w : World) (hB : Below w0.heap.size w0 w) (ho0 : Kd.R k148 148 w w0.heap.size P0_ u9000_ l0) (h : laws_markGroutS.f k l0 a1 = some (r1, r2)) :
    Calls Try.prog 60 #[u9000_, .int .i64 a1] w fun e w' => e = .returned (.int .i64 r1) ∧ Kd.R k148 148 w' w0.heap.size (fun k_ => (P0_ k_ ∨ w.heap.size ≤ k_)) u9000_ r2 ∧ Below w0.heap.size w0 w' ∧ Kept w w' (fun k_ => P0_ k_) := by
  have HO0 := Aside0.mk (show Kd.R k148 148 w w0.heap.size (fun k_ => (P0_ k_ ∨ w.heap.size ≤ k_)) u9000_ l0 from Kd.R_mono ho0 (fun k_ hk => (.inl hk)))
  have HK := Aside0.mk (Kept.refl w (fun k_ => P0_ k_))
  have HW0 := Aside0.mk hB.size
  have HB := Aside0.mk hB
  clear hB
  have H : (laws_markGroutS.l0 k l0 a1 0) = some (r1, r2) := h
  clear h
  have H' := Aside0.mk H
  clear H
  go_enter Try.func60, Try.ntmps60
  go_wp2
  go_loopg [1, 5] k (fun kq v1 v5 w' => ∃ (x0_1 : List (S148)) (x1_1 : Int) (x5_1 : Int), v1 = .int .i64 x1_1 ∧ v5 = .int .i64 x5_1 ∧ Aside0 (laws_markGroutS.l0 kq x0_1 x1_1 x5_1 = some (r1, r2)) ∧ Aside0 (kq ≤ k) ∧ Aside0 (Kd.R k148 148 w' w0.heap.size (fun k_ => (P0_ k_ ∨ w.heap.size ≤ k_)) u9000_ x0_1) ∧ Aside0 (Kept w w' (fun k_ => P0_ k_)) ∧ Aside0 (Below w0.heap.size w0 w'))
  case atStart => exact ⟨(l0), (a1), (0), (by first | rfl | (simp; done) | (simp [*]; done) | (simp [Int.tdiv_eq_ediv_of_nonneg, *]; done)), (by first | rfl | (simp; done) | (simp [*]; done) | (simp [Int.tdiv_eq_ediv_of_nonneg, *]; done)), H', ⟨Nat.le_refl _⟩, ⟨by (with_reducible repeat (first | apply Kd.R_alloc | apply Kd.R_drewN | apply Kd.R_drew)); exact HO0.out⟩, ⟨by repeat (first | (with_reducible first | exact HK.out | apply Kept.alloc | apply Kept.drewN | apply Kept.drew) | exact HK.out)⟩, ⟨by repeat (first | (with_reducible first | exact HB.out | apply below_alloc | apply pw_below_drewN | apply below_drew1) | exact HB.out)⟩⟩
  case round =>
    clear H'
    try clear p2
    obtain ⟨x0_1, x1_1, x5_1, rfl, rfl, HA, HK1, HO_0, HK, HB⟩ := hrel
    cases gk with
    | zero => exact absurd HA.out (by simp [laws_markGroutS.l0])
    | succ k1 =>
      have H := HA.out
      clear HA
      simp only [laws_markGroutS.l0] at H
      by_cases c3 : x5_1 < (x0_1.length : Int)
      · rw [if_pos c3] at H
        have c3b0 : decide (x5_1 < (x0_1.length : Int)) = true := decide_eq_true c3
        clear c3
        by_cases c4 : 0 ≤ x5_1
        · rw [if_pos c4] at H
          have c4b0 : decide (0 ≤ x5_1) = true := decide_eq_true c4
          clear c4
          obtain ⟨y916, hy916⟩ : ∃ y_ : List (S148), y_ = (x0_1.set (x5_1 : Int).toNat (⟨x1_1, (rd_T148 x0_1 x5_1).f1, (rd_T148 x0_1 x5_1).f2, (rd_T148 x0_1 x5_1).f3⟩ : S148)) := ⟨_, rfl⟩
          replace H : ((some (y916.set (x5_1 : Int).toNat (⟨(rd_T148 y916 x5_1).f0, wrap64 (x1_1 + 1), (rd_T148 y916 x5_1).f2, (rd_T148 y916 x5_1).f3⟩ : S148) : List (S148))).bind fun y917 => ((some (y917.set (x5_1 : Int).toNat (⟨(rd_T148 y917 x5_1).f0, (rd_T148 y917 x5_1).f1, wrap64 ((wrap64 (x1_1 + 1)) + 1), (rd_T148 y917 x5_1).f3⟩ : S148) : List (S148))).bind fun y918 => (laws_markGroutS.l0 k1 (y918.set (x5_1 : Int).toNat (⟨(rd_T148 y918 x5_1).f0, (rd_T148 y918 x5_1).f1, (rd_T148 y918 x5_1).f2, wrap64 ((wrap64 ((wrap64 (x1_1 + 1)) + 1)) + 1)⟩ : S148)) (wrap64 ((wrap64 ((wrap64 ((wrap64 (x1_1 + 1)) + 1)) + 1)) + 1)) (wrap64 (x5_1 + 1))))) = some (r1, r2) := by first | (rw [hy916]; with_reducible exact H) | (have H2_ := (Option.bind_some _ _).symm.trans H; rw [hy916]; with_reducible exact H2_) | (have H2_ := (Option.bind_some _ _).symm.trans H; with_reducible exact H2_) | with_reducible exact H | (rw [hy916]; exact H) | exact H
          have Ny916 := Aside0.mk hy916
          clear hy916
          obtain ⟨y917, hy917⟩ : ∃ y_ : List (S148), y_ = (y916.set (x5_1 : Int).toNat (⟨(rd_T148 y916 x5_1).f0, wrap64 (x1_1 + 1), (rd_T148 y916 x5_1).f2, (rd_T148 y916 x5_1).f3⟩ : S148)) := ⟨_, rfl⟩
          replace H : ((some (y917.set (x5_1 : Int).toNat (⟨(rd_T148 y917 x5_1).f0, (rd_T148 y917 x5_1).f1, wrap64 ((wrap64 (x1_1 + 1)) + 1), (rd_T148 y917 x5_1).f3⟩ : S148) : List (S148))).bind fun y918 => (laws_markGroutS.l0 k1 (y918.set (x5_1 : Int).toNat (⟨(rd_T148 y918 x5_1).f0, (rd_T148 y918 x5_1).f1, (rd_T148 y918 x5_1).f2, wrap64 ((wrap64 ((wrap64 (x1_1 + 1)) + 1)) + 1)⟩ : S148)) (wrap64 ((wrap64 ((wrap64 ((wrap64 (x1_1 + 1)) + 1)) + 1)) + 1)) (wrap64 (x5_1 + 1)))) = some (r1, r2) := by first | (rw [hy917]; with_reducible exact H) | (have H2_ := (Option.bind_some _ _).symm.trans H; rw [hy917]; with_reducible exact H2_) | (have H2_ := (Option.bind_some _ _).symm.trans H; with_reducible exact H2_) | with_reducible exact H | (rw [hy917]; exact H) | exact H
          have Ny917 := Aside0.mk hy917
          clear hy917
          obtain ⟨y918, hy918⟩ : ∃ y_ : List (S148), y_ = (y917.set (x5_1 : Int).toNat (⟨(rd_T148 y917 x5_1).f0, (rd_T148 y917 x5_1).f1, wrap64 ((wrap64 (x1_1 + 1)) + 1), (rd_T148 y917 x5_1).f3⟩ : S148)) := ⟨_, rfl⟩
          replace H : (laws_markGroutS.l0 k1 (y918.set (x5_1 : Int).toNat (⟨(rd_T148 y918 x5_1).f0, (rd_T148 y918 x5_1).f1, (rd_T148 y918 x5_1).f2, wrap64 ((wrap64 ((wrap64 (x1_1 + 1)) + 1)) + 1)⟩ : S148)) (wrap64 ((wrap64 ((wrap64 ((wrap64 (x1_1 + 1)) + 1)) + 1)) + 1)) (wrap64 (x5_1 + 1))) = some (r1, r2) := by first | (rw [hy918]; with_reducible exact H) | (have H2_ := (Option.bind_some _ _).symm.trans H; rw [hy918]; with_reducible exact H2_) | (have H2_ := (Option.bind_some _ _).symm.trans H; with_reducible exact H2_) | with_reducible exact H | (rw [hy918]; exact H) | exact H
          have Ny918 := Aside0.mk hy918
          clear hy918
          obtain ⟨y919, hy919⟩ : ∃ y_ : List (S148), y_ = (y918.set (x5_1 : Int).toNat (⟨(rd_T148 y918 x5_1).f0, (rd_T148 y918 x5_1).f1, (rd_T148 y918 x5_1).f2, wrap64 ((wrap64 ((wrap64 (x1_1 + 1)) + 1)) + 1)⟩ : S148)) := ⟨_, rfl⟩
          replace H : (laws_markGroutS.l0 k1 y919 (wrap64 ((wrap64 ((wrap64 ((wrap64 (x1_1 + 1)) + 1)) + 1)) + 1)) (wrap64 (x5_1 + 1))) = some (r1, r2) := by first | (rw [hy919]; with_reducible exact H) | (have H2_ := (Option.bind_some _ _).symm.trans H; rw [hy919]; with_reducible exact H2_) | (have H2_ := (Option.bind_some _ _).symm.trans H; with_reducible exact H2_) | with_reducible exact H | (rw [hy919]; exact H) | exact H
          have Ny919 := Aside0.mk hy919
          clear hy919
          have H' := Aside0.mk H
          clear H
          obtain ⟨Ao9, co9, eo9⟩ := Kd.R_slice HO_0.out
          subst eo9
          have p5 : 0 ≤ (x5_1 : Int) := of_decide_eq_true (by first | (with_reducible assumption) | assumption)
          have q5 : (x5_1 : Int) < ((x0_1.length : Int) : Int) := of_decide_eq_true (by first | (with_reducible assumption) | assumption)
          obtain ⟨go5, co5, eo5, gb5, gl5, cl5, HG5⟩ := Kd.R_form HO_0.out (by omega)
          (first | cases eo5 | (injection eo5 with ea_ en_ ec_; (first | subst ea_ | (injection ea_ with ea_; subst ea_)); subst ec_; clear en_))
          have GB5 := Aside0.mk gb5
          have GG5 := Aside0.mk HG5
          clear gb5 gl5 HG5
          have HMgo5 := Aside0.mk (show (P0_ go5 ∨ w.heap.size ≤ go5) from (HO_0.out.1 _ rfl))
          obtain ⟨ce5, hcl5, hM5, hcc5, hfr5⟩ := Kd.R_elem HO_0.out z148 (x5_1 : Int) p5 q5
          obtain rfl := k148_openM hM5
          have hx5_0 : wr.cell? ⟨go5, (x5_1 : Int).toNat * 4, none⟩ = some (.int .i64 ((rd_T148 x0_1 x5_1).f0)) := hcc5 0 _ rfl
          have hx5_1 : wr.cell? ⟨go5, (x5_1 : Int).toNat * 4 + 1, none⟩ = some (.int .i64 ((rd_T148 x0_1 x5_1).f1)) := hcc5 1 _ rfl
          have hx5_2 : wr.cell? ⟨go5, (x5_1 : Int).toNat * 4 + 2, none⟩ = some (.int .i64 ((rd_T148 x0_1 x5_1).f2)) := hcc5 2 _ rfl
          have hx5_3 : wr.cell? ⟨go5, (x5_1 : Int).toNat * 4 + 3, none⟩ = some (.int .i64 ((rd_T148 x0_1 x5_1).f3)) := hcc5 3 _ rfl
          have hf5_0 : wr.frozen? ⟨go5, (x5_1 : Int).toNat * 4, none⟩ = false := hfr5 0
          have hf5_1 : wr.frozen? ⟨go5, (x5_1 : Int).toNat * 4 + 1, none⟩ = false := hfr5 1
          have hf5_2 : wr.frozen? ⟨go5, (x5_1 : Int).toNat * 4 + 2, none⟩ = false := hfr5 2
          have hf5_3 : wr.frozen? ⟨go5, (x5_1 : Int).toNat * 4 + 3, none⟩ = false := hfr5 3
          clear hcl5 hcc5 hfr5 hM5
          replace p5 := eq_true p5
          replace q5 := eq_true q5
          have HX10 := Aside0.mk (show Kd.R k148 148 wr w0.heap.size (fun k_ => (P0_ k_ ∨ w.heap.size ≤ k_)) (.slice (some ⟨go5, 0, none⟩) x0_1.length co9) x0_1 from (by (with_reducible repeat (first | apply Kd.R_alloc | apply Kd.R_drewN | apply Kd.R_drew)); exact HO_0.out))
          obtain ⟨ce10, hcl10, hM10, hcc10, hfr10⟩ := Kd.R_elem HX10.out z148 (x5_1 : Int) (of_decide_eq_true (by first | (with_reducible assumption) | assumption)) (by have h_ : (x5_1 : Int) < ((x0_1.length : Int) : Int) := of_decide_eq_true (by first | (with_reducible assumption) | assumption); first | exact h_ | (have e_ := (Kd.R_reads' HO_0.out).1; omega) | simpa using h_)
          obtain rfl := k148_openM hM10
          have HP10 := Kd.R_seg HX10.out (x5_1 : Int) (of_decide_eq_true (by first | (with_reducible assumption) | assumption)) (by have h_ : (x5_1 : Int) < ((x0_1.length : Int) : Int) := of_decide_eq_true (by first | (with_reducible assumption) | assumption); first | exact h_ | (have e_ := (Kd.R_reads' HO_0.out).1; omega) | simpa using h_) (seg := [.int .i64 x1_1]) (j := 0) hcl10 hcc10 (show 1 ≤ 4 from by decide) (x' := (⟨x1_1, (rd_T148 x0_1 x5_1).f1, (rd_T148 x0_1 x5_1).f2, (rd_T148 x0_1 x5_1).f3⟩ : S148)) (k148_mkM _ _ _ (⟨x1_1, (rd_T148 x0_1 x5_1).f1, (rd_T148 x0_1 x5_1).f2, (rd_T148 x0_1 x5_1).f3⟩ : S148) ) (fun _ hk => hk)
          have hx10_0 := hcc10 0 _ rfl
          (try simp only [show (k148).sz = 4 from rfl, Nat.mul_one, Nat.add_zero] at hx10_0)
          have hf10_0 := hfr10 0
          (try simp only [show (k148).sz = 4 from rfl, Nat.mul_one, Nat.add_zero] at hf10_0)
          clear hcl10 hcc10 hfr10 hM10
          go_wp2_with (first | ((with_reducible refine gate_store (t := 2) (p := 16) rfl ?_); refine store_event (t := 2) (p := 16) (v := ?vo_w11) (w1 := (wr.setCell ⟨go5, (x5_1 : Int).toNat * 4, none⟩ (.int .i64 x1_1))) ?hg ?ho ?hn ?hr ?_; (case ho => rfl); (case hg => rfl); (case hn => rfl); (case hr => first | (go_simp; done) | (go_simp; rfl)); intro w11 hw; have hg : wr.grownBy w11 (some go5) := (by rw [hw]; exact HP10.2); have hp_ : Kd.R k148 148 w11 w0.heap.size (fun k_ => (P0_ k_ ∨ w.heap.size ≤ k_)) (.slice (some ⟨go5, 0, none⟩) x0_1.length co9) y916 := (by rw [hw, Ny916.out]; exact HP10.1); clear HP10; have n0_ := Aside0.mk (hp_); have n1_ := Aside0.mk ((by rw [hw]; exact below_set (HB.out) GB5.out : Below w0.heap.size w0 w11)); have n2_ := Aside0.mk (Kept.of_grown (S := (fun k_ => P0_ k_)) hg (by repeat (first | (with_reducible first | exact HK.out | apply Kept.alloc | apply Kept.drewN | apply Kept.drew) | exact HK.out)) (fun k_ e_ => (HO_0.out.1 k_ e_))); clear HO_0; clear HB; clear HK; have HO_0 := n0_; have HB := n1_; have HK := n2_; clear n0_ n1_ n2_; clear hg hw hp_; have p6 : 0 ≤ (x5_1 : Int) := of_decide_eq_true (by first | (with_reducible assumption) | assumption); have q6 : (x5_1 : Int) < ((x0_1.length : Int) : Int) := of_decide_eq_true (by first | (with_reducible assumption) | assumption); obtain ⟨ce6, hcl6, hM6, hcc6, hfr6⟩ := Kd.R_elem HO_0.out z148 (x5_1 : Int) p6 q6; obtain rfl := k148_openM hM6; have hx6_0 : w11.cell? ⟨go5, (x5_1 : Int).toNat * 4, none⟩ = some (.int .i64 ((rd_T148 y916 x5_1).f0)) := hcc6 0 _ rfl; have hx6_1 : w11.cell? ⟨go5, (x5_1 : Int).toNat * 4 + 1, none⟩ = some (.int .i64 ((rd_T148 y916 x5_1).f1)) := hcc6 1 _ rfl; have hx6_2 : w11.cell? ⟨go5, (x5_1 : Int).toNat * 4 + 2, none⟩ = some (.int .i64 ((rd_T148 y916 x5_1).f2)) := hcc6 2 _ rfl; have hx6_3 : w11.cell? ⟨go5, (x5_1 : Int).toNat * 4 + 3, none⟩ = some (.int .i64 ((rd_T148 y916 x5_1).f3)) := hcc6 3 _ rfl; have hf6_0 : w11.frozen? ⟨go5, (x5_1 : Int).toNat * 4, none⟩ = false := hfr6 0; have hf6_1 : w11.frozen? ⟨go5, (x5_1 : Int).toNat * 4 + 1, none⟩ = false := hfr6 1; have hf6_2 : w11.frozen? ⟨go5, (x5_1 : Int).toNat * 4 + 2, none⟩ = false := hfr6 2; have hf6_3 : w11.frozen? ⟨go5, (x5_1 : Int).toNat * 4 + 3, none⟩ = false := hfr6 3; clear hcl6 hcc6 hfr6 hM6; replace p6 := eq_true p6; replace q6 := eq_true q6; have HX12 := Aside0.mk (show Kd.R k148 148 w11 w0.heap.size (fun k_ => (P0_ k_ ∨ w.heap.size ≤ k_)) (.slice (some ⟨go5, 0, none⟩) x0_1.length co9) y916 from (by (with_reducible repeat (first | apply Kd.R_alloc | apply Kd.R_drewN | apply Kd.R_drew)); exact HO_0.out)); obtain ⟨ce12, hcl12, hM12, hcc12, hfr12⟩ := Kd.R_elem HX12.out z148 (x5_1 : Int) (of_decide_eq_true (by first | (with_reducible assumption) | assumption)) (by have h_ : (x5_1 : Int) < ((x0_1.length : Int) : Int) := of_decide_eq_true (by first | (with_reducible assumption) | assumption); first | exact h_ | (have e_ := (Kd.R_reads' HO_0.out).1; omega) | simpa using h_); obtain rfl := k148_openM hM12; have HP12 := Kd.R_seg HX12.out (x5_1 : Int) (of_decide_eq_true (by first | (with_reducible assumption) | assumption)) (by have h_ : (x5_1 : Int) < ((x0_1.length : Int) : Int) := of_decide_eq_true (by first | (with_reducible assumption) | assumption); first | exact h_ | (have e_ := (Kd.R_reads' HO_0.out).1; omega) | simpa using h_) (seg := [.int .i64 (wrap64 (x1_1 + 1))]) (j := 1) hcl12 hcc12 (show 2 ≤ 4 from by decide) (x' := (⟨(rd_T148 y916 x5_1).f0, wrap64 (x1_1 + 1), (rd_T148 y916 x5_1).f2, (rd_T148 y916 x5_1).f3⟩ : S148)) (k148_mkM _ _ _ (⟨(rd_T148 y916 x5_1).f0, wrap64 (x1_1 + 1), (rd_T148 y916 x5_1).f2, (rd_T148 y916 x5_1).f3⟩ : S148) ) (fun _ hk => hk); have hx12_1 := hcc12 1 _ rfl; (try simp only [show (k148).sz = 4 from rfl, Nat.mul_one, Nat.add_zero] at hx12_1); have hf12_1 := hfr12 1; (try simp only [show (k148).sz = 4 from rfl, Nat.mul_one, Nat.add_zero] at hf12_1); clear hcl12 hcc12 hfr12 hM12) | ((with_reducible refine gate_store (t := 2) (p := 23) rfl ?_); refine store_event (t := 2) (p := 23) (v := ?vo_w13) (w1 := (w11.setCell ⟨go5, (x5_1 : Int).toNat * 4 + 1, none⟩ (.int .i64 (wrap64 (x1_1 + 1))))) ?hg ?ho ?hn ?hr ?_; (case ho => rfl); (case hg => rfl); (case hn => rfl); (case hr => first | (go_simp; done) | (go_simp; rfl)); intro w13 hw; have hg : w11.grownBy w13 (some go5) := (by rw [hw]; exact HP12.2); have hp_ : Kd.R k148 148 w13 w0.heap.size (fun k_ => (P0_ k_ ∨ w.heap.size ≤ k_)) (.slice (some ⟨go5, 0, none⟩) x0_1.length co9) y917 := (by rw [hw, Ny917.out]; exact HP12.1); clear HP12; have n0_ := Aside0.mk (hp_); have n1_ := Aside0.mk ((by rw [hw]; exact below_set (HB.out) GB5.out : Below w0.heap.size w0 w13)); have n2_ := Aside0.mk (Kept.of_grown (S := (fun k_ => P0_ k_)) hg (by repeat (first | (with_reducible first | exact HK.out | apply Kept.alloc | apply Kept.drewN | apply Kept.drew) | exact HK.out)) (fun k_ e_ => (HO_0.out.1 k_ e_))); clear HO_0; clear HB; clear HK; have HO_0 := n0_; have HB := n1_; have HK := n2_; clear n0_ n1_ n2_; clear hg hw hp_; have p7 : 0 ≤ (x5_1 : Int) := of_decide_eq_true (by first | (with_reducible assumption) | assumption); have q7 : (x5_1 : Int) < ((x0_1.length : Int) : Int) := of_decide_eq_true (by first | (with_reducible assumption) | assumption); obtain ⟨ce7, hcl7, hM7, hcc7, hfr7⟩ := Kd.R_elem HO_0.out z148 (x5_1 : Int) p7 q7; obtain rfl := k148_openM hM7; have hx7_0 : w13.cell? ⟨go5, (x5_1 : Int).toNat * 4, none⟩ = some (.int .i64 ((rd_T148 y917 x5_1).f0)) := hcc7 0 _ rfl; have hx7_1 : w13.cell? ⟨go5, (x5_1 : Int).toNat * 4 + 1, none⟩ = some (.int .i64 ((rd_T148 y917 x5_1).f1)) := hcc7 1 _ rfl; have hx7_2 : w13.cell? ⟨go5, (x5_1 : Int).toNat * 4 + 2, none⟩ = some (.int .i64 ((rd_T148 y917 x5_1).f2)) := hcc7 2 _ rfl; have hx7_3 : w13.cell? ⟨go5, (x5_1 : Int).toNat * 4 + 3, none⟩ = some (.int .i64 ((rd_T148 y917 x5_1).f3)) := hcc7 3 _ rfl; have hf7_0 : w13.frozen? ⟨go5, (x5_1 : Int).toNat * 4, none⟩ = false := hfr7 0; have hf7_1 : w13.frozen? ⟨go5, (x5_1 : Int).toNat * 4 + 1, none⟩ = false := hfr7 1; have hf7_2 : w13.frozen? ⟨go5, (x5_1 : Int).toNat * 4 + 2, none⟩ = false := hfr7 2; have hf7_3 : w13.frozen? ⟨go5, (x5_1 : Int).toNat * 4 + 3, none⟩ = false := hfr7 3; clear hcl7 hcc7 hfr7 hM7; replace p7 := eq_true p7; replace q7 := eq_true q7; have HX14 := Aside0.mk (show Kd.R k148 148 w13 w0.heap.size (fun k_ => (P0_ k_ ∨ w.heap.size ≤ k_)) (.slice (some ⟨go5, 0, none⟩) x0_1.length co9) y917 from (by (with_reducible repeat (first | apply Kd.R_alloc | apply Kd.R_drewN | apply Kd.R_drew)); exact HO_0.out)); obtain ⟨ce14, hcl14, hM14, hcc14, hfr14⟩ := Kd.R_elem HX14.out z148 (x5_1 : Int) (of_decide_eq_true (by first | (with_reducible assumption) | assumption)) (by have h_ : (x5_1 : Int) < ((x0_1.length : Int) : Int) := of_decide_eq_true (by first | (with_reducible assumption) | assumption); first | exact h_ | (have e_ := (Kd.R_reads' HO_0.out).1; omega) | simpa using h_); obtain rfl := k148_openM hM14; have HP14 := Kd.R_seg HX14.out (x5_1 : Int) (of_decide_eq_true (by first | (with_reducible assumption) | assumption)) (by have h_ : (x5_1 : Int) < ((x0_1.length : Int) : Int) := of_decide_eq_true (by first | (with_reducible assumption) | assumption); first | exact h_ | (have e_ := (Kd.R_reads' HO_0.out).1; omega) | simpa using h_) (seg := [.int .i64 (wrap64 ((wrap64 (x1_1 + 1)) + 1))]) (j := 2) hcl14 hcc14 (show 3 ≤ 4 from by decide) (x' := (⟨(rd_T148 y917 x5_1).f0, (rd_T148 y917 x5_1).f1, wrap64 ((wrap64 (x1_1 + 1)) + 1), (rd_T148 y917 x5_1).f3⟩ : S148)) (k148_mkM _ _ _ (⟨(rd_T148 y917 x5_1).f0, (rd_T148 y917 x5_1).f1, wrap64 ((wrap64 (x1_1 + 1)) + 1), (rd_T148 y917 x5_1).f3⟩ : S148) ) (fun _ hk => hk); have hx14_2 := hcc14 2 _ rfl; (try simp only [show (k148).sz = 4 from rfl, Nat.mul_one, Nat.add_zero] at hx14_2); have hf14_2 := hfr14 2; (try simp only [show (k148).sz = 4 from rfl, Nat.mul_one, Nat.add_zero] at hf14_2); clear hcl14 hcc14 hfr14 hM14) | ((with_reducible refine gate_store (t := 2) (p := 30) rfl ?_); refine store_event (t := 2) (p := 30) (v := ?vo_w15) (w1 := (w13.setCell ⟨go5, (x5_1 : Int).toNat * 4 + 2, none⟩ (.int .i64 (wrap64 ((wrap64 (x1_1 + 1)) + 1))))) ?hg ?ho ?hn ?hr ?_; (case ho => rfl); (case hg => rfl); (case hn => rfl); (case hr => first | (go_simp; done) | (go_simp; rfl)); intro w15 hw; have hg : w13.grownBy w15 (some go5) := (by rw [hw]; exact HP14.2); have hp_ : Kd.R k148 148 w15 w0.heap.size (fun k_ => (P0_ k_ ∨ w.heap.size ≤ k_)) (.slice (some ⟨go5, 0, none⟩) x0_1.length co9) y918 := (by rw [hw, Ny918.out]; exact HP14.1); clear HP14; have n0_ := Aside0.mk (hp_); have n1_ := Aside0.mk ((by rw [hw]; exact below_set (HB.out) GB5.out : Below w0.heap.size w0 w15)); have n2_ := Aside0.mk (Kept.of_grown (S := (fun k_ => P0_ k_)) hg (by repeat (first | (with_reducible first | exact HK.out | apply Kept.alloc | apply Kept.drewN | apply Kept.drew) | exact HK.out)) (fun k_ e_ => (HO_0.out.1 k_ e_))); clear HO_0; clear HB; clear HK; have HO_0 := n0_; have HB := n1_; have HK := n2_; clear n0_ n1_ n2_; clear hg hw hp_; have p8 : 0 ≤ (x5_1 : Int) := of_decide_eq_true (by first | (with_reducible assumption) | assumption); have q8 : (x5_1 : Int) < ((x0_1.length : Int) : Int) := of_decide_eq_true (by first | (with_reducible assumption) | assumption); obtain ⟨ce8, hcl8, hM8, hcc8, hfr8⟩ := Kd.R_elem HO_0.out z148 (x5_1 : Int) p8 q8; obtain rfl := k148_openM hM8; have hx8_0 : w15.cell? ⟨go5, (x5_1 : Int).toNat * 4, none⟩ = some (.int .i64 ((rd_T148 y918 x5_1).f0)) := hcc8 0 _ rfl; have hx8_1 : w15.cell? ⟨go5, (x5_1 : Int).toNat * 4 + 1, none⟩ = some (.int .i64 ((rd_T148 y918 x5_1).f1)) := hcc8 1 _ rfl; have hx8_2 : w15.cell? ⟨go5, (x5_1 : Int).toNat * 4 + 2, none⟩ = some (.int .i64 ((rd_T148 y918 x5_1).f2)) := hcc8 2 _ rfl; have hx8_3 : w15.cell? ⟨go5, (x5_1 : Int).toNat * 4 + 3, none⟩ = some (.int .i64 ((rd_T148 y918 x5_1).f3)) := hcc8 3 _ rfl; have hf8_0 : w15.frozen? ⟨go5, (x5_1 : Int).toNat * 4, none⟩ = false := hfr8 0; have hf8_1 : w15.frozen? ⟨go5, (x5_1 : Int).toNat * 4 + 1, none⟩ = false := hfr8 1; have hf8_2 : w15.frozen? ⟨go5, (x5_1 : Int).toNat * 4 + 2, none⟩ = false := hfr8 2; have hf8_3 : w15.frozen? ⟨go5, (x5_1 : Int).toNat * 4 + 3, none⟩ = false := hfr8 3; clear hcl8 hcc8 hfr8 hM8; replace p8 := eq_true p8; replace q8 := eq_true q8; have HX16 := Aside0.mk (show Kd.R k148 148 w15 w0.heap.size (fun k_ => (P0_ k_ ∨ w.heap.size ≤ k_)) (.slice (some ⟨go5, 0, none⟩) x0_1.length co9) y918 from (by (with_reducible repeat (first | apply Kd.R_alloc | apply Kd.R_drewN | apply Kd.R_drew)); exact HO_0.out)); obtain ⟨ce16, hcl16, hM16, hcc16, hfr16⟩ := Kd.R_elem HX16.out z148 (x5_1 : Int) (of_decide_eq_true (by first | (with_reducible assumption) | assumption)) (by have h_ : (x5_1 : Int) < ((x0_1.length : Int) : Int) := of_decide_eq_true (by first | (with_reducible assumption) | assumption); first | exact h_ | (have e_ := (Kd.R_reads' HO_0.out).1; omega) | simpa using h_); obtain rfl := k148_openM hM16; have HP16 := Kd.R_seg HX16.out (x5_1 : Int) (of_decide_eq_true (by first | (with_reducible assumption) | assumption)) (by have h_ : (x5_1 : Int) < ((x0_1.length : Int) : Int) := of_decide_eq_true (by first | (with_reducible assumption) | assumption); first | exact h_ | (have e_ := (Kd.R_reads' HO_0.out).1; omega) | simpa using h_) (seg := [.int .i64 (wrap64 ((wrap64 ((wrap64 (x1_1 + 1)) + 1)) + 1))]) (j := 3) hcl16 hcc16 (show 4 ≤ 4 from by decide) (x' := (⟨(rd_T148 y918 x5_1).f0, (rd_T148 y918 x5_1).f1, (rd_T148 y918 x5_1).f2, wrap64 ((wrap64 ((wrap64 (x1_1 + 1)) + 1)) + 1)⟩ : S148)) (k148_mkM _ _ _ (⟨(rd_T148 y918 x5_1).f0, (rd_T148 y918 x5_1).f1, (rd_T148 y918 x5_1).f2, wrap64 ((wrap64 ((wrap64 (x1_1 + 1)) + 1)) + 1)⟩ : S148) ) (fun _ hk => hk); have hx16_3 := hcc16 3 _ rfl; (try simp only [show (k148).sz = 4 from rfl, Nat.mul_one, Nat.add_zero] at hx16_3); have hf16_3 := hfr16 3; (try simp only [show (k148).sz = 4 from rfl, Nat.mul_one, Nat.add_zero] at hf16_3); clear hcl16 hcc16 hfr16 hM16) | ((with_reducible refine gate_store (t := 2) (p := 37) rfl ?_); refine store_event (t := 2) (p := 37) (v := ?vo_w17) (w1 := (w15.setCell ⟨go5, (x5_1 : Int).toNat * 4 + 3, none⟩ (.int .i64 (wrap64 ((wrap64 ((wrap64 (x1_1 + 1)) + 1)) + 1))))) ?hg ?ho ?hn ?hr ?_; (case ho => rfl); (case hg => rfl); (case hn => rfl); (case hr => first | (go_simp; done) | (go_simp; rfl)); intro w17 hw; have hg : w15.grownBy w17 (some go5) := (by rw [hw]; exact HP16.2); have hp_ : Kd.R k148 148 w17 w0.heap.size (fun k_ => (P0_ k_ ∨ w.heap.size ≤ k_)) (.slice (some ⟨go5, 0, none⟩) x0_1.length co9) y919 := (by rw [hw, Ny919.out]; exact HP16.1); clear HP16; have n0_ := Aside0.mk (hp_); have n1_ := Aside0.mk ((by rw [hw]; exact below_set (HB.out) GB5.out : Below w0.heap.size w0 w17)); have n2_ := Aside0.mk (Kept.of_grown (S := (fun k_ => P0_ k_)) hg (by repeat (first | (with_reducible first | exact HK.out | apply Kept.alloc | apply Kept.drewN | apply Kept.drew) | exact HK.out)) (fun k_ e_ => (HO_0.out.1 k_ e_))); clear HO_0; clear HB; clear HK; have HO_0 := n0_; have HB := n1_; have HK := n2_; clear n0_ n1_ n2_; clear hg hw hp_))
          go_roundg k1
          case measure => have := HK1.out; omega
          case rel => exact ⟨(y919), (wrap64 ((wrap64 ((wrap64 ((wrap64 (x1_1 + 1)) + 1)) + 1)) + 1)), (wrap64 (x5_1 + 1)), (by first | rfl | (simp; done) | (simp [*]; done) | (simp [Int.tdiv_eq_ediv_of_nonneg, *]; done)), (by first | rfl | (simp; done) | (simp [*]; done) | (simp [Int.tdiv_eq_ediv_of_nonneg, *]; done)), H', ⟨by have := HK1.out; omega⟩, ⟨by (with_reducible repeat (first | apply Kd.R_alloc | apply Kd.R_drewN | apply Kd.R_drew)); exact HO_0.out⟩, ⟨by repeat (first | (with_reducible first | exact HK.out | apply Kept.alloc | apply Kept.drewN | apply Kept.drew) | exact HK.out)⟩, ⟨by repeat (first | (with_reducible first | exact HB.out | apply below_alloc | apply pw_below_drewN | apply below_drew1) | exact HB.out)⟩⟩
        · rw [if_neg c4] at H
          exact absurd H (by simp)
      · rw [if_neg c3] at H
        have c3b0 : decide (x5_1 < (x0_1.length : Int)) = false := decide_eq_false c3
        clear c3
        simp only [Option.some.injEq, Prod.mk.injEq] at H
        obtain ⟨rfl, rfl⟩ := H
        obtain ⟨Ao18, co18, eo18⟩ := Kd.R_slice HO_0.out
        subst eo18
        go_wp2
        go_ret
        exact ⟨by first | rfl | (simp [errW_none, errW_some] <;> rfl) | (simp [*, errW_none, errW_some] <;> rfl) | (simp [Int.tdiv_eq_ediv_of_nonneg, *]; done), by (with_reducible repeat (first | apply Kd.R_alloc | apply Kd.R_drewN | apply Kd.R_drew)); exact HO_0.out, by repeat (first | (with_reducible first | exact HB.out | apply below_alloc | apply pw_below_drewN | apply below_drew1) | exact HB.out), by repeat (first | (with_reducible first | exact HK.out | apply Kept.alloc | apply Kept.drewN | apply Kept.drew) | exact HK.out)⟩

/-! ### laws_heldLossS: function 61 -/
def laws_heldLossS.l0 : Nat → List (S107) → Int → Int → Option (Int)
  | 0, _, _, _ => none
  | k + 1, x0, x1, x5 => if x5 < (x0.length : Int) then (if 0 ≤ x5 then (if ((rd_T107 x0 x5).f0) = x1 then (if ((rd_T107 x0 x5).f1) = (wrap64 (x1 + 1)) then (if ((rd_T107 x0 x5).f2) = (wrap64 ((wrap64 (x1 + 1)) + 1)) then (laws_heldLossS.l0 k x0 (wrap64 ((wrap64 ((wrap64 (x1 + 1)) + 1)) + 1)) (wrap64 (x5 + 1))) else (some (-1))) else (some (-1))) else (some (-1))) else (none)) else (some x1)
def laws_heldLossS.f (k : Nat) (l0 : List (S107)) (a1 : Int) : Option (Int) := laws_heldLossS.l0 k l0 a1 0
theorem laws_heldLossS.mono_l : ∀ k, (∀ y0 y1 y2, LeO (laws_heldLossS.l0 k y0 y1 y2) (laws_heldLossS.l0 (k + 1) y0 y1 y2))
  | 0 => fun _ _ _ r h => by simp [laws_heldLossS.l0] at h
  | k + 1 => by
    have ih0 := laws_heldLossS.mono_l k
    · intro y0 y1 y2
      unfold laws_heldLossS.l0
      repeat' first
      | (with_reducible exact ih0 _ _ _)
      | (with_reducible exact LeO.refl _)
      | (with_reducible exact LeO.none _)
      | (with_reducible refine LeO.ite ?_ ?_)
      | (with_reducible refine LeO.bind ?_ (fun _ => ?_))
      | exact ih0 _ _ _
      | exact LeO.none _
      | refine LeO.ite ?_ ?_
      | refine LeO.bind ?_ (fun _ => ?_)
theorem laws_heldLossS.mono : ∀ a0 a1 k, LeO (laws_heldLossS.f k a0 a1) (laws_heldLossS.f (k + 1) a0 a1) := by
  intro a0 a1 k
  have ih0 := laws_heldLossS.mono_l k
  unfold laws_heldLossS.f
  repeat' first
      | (with_reducible exact ih0 _ _ _)
      | (with_reducible exact LeO.refl _)
      | (with_reducible exact LeO.none _)
      | (with_reducible refine LeO.ite ?_ ?_)
      | (with_reducible refine LeO.bind ?_ (fun _ => ?_))
      | exact ih0 _ _ _
      | exact LeO.none _
      | refine LeO.ite ?_ ?_
      | refine LeO.bind ?_ (fun _ => ?_)
set_option maxHeartbeats 8000000 in
set_option maxRecDepth 100000 in
theorem laws_heldLossS.calls (k : Nat) (A0 : Option Addr) (c0 : Nat) (l0 : List (S107)) (a1 : Int) (r : Int) (w : World) (hr0 : Kd.C k107 w A0 l0.length l0) (hc0 : l0.length ≤ c0) (h : laws_heldLossS.f k l0 a1 = some r) :
    Calls Try.prog 61 #[.slice A0 l0.length c0, .int .i64 a1] w fun e w' => e = .returned (.int .i64 r) ∧ Drawn0 w w' := by
  have HR0 := Aside0.mk hr0
  have HC0 := Aside0.mk hc0
  clear hr0 hc0
  have H : (laws_heldLossS.l0 k l0 a1 0) = some r := h
  clear h
  have H' := Aside0.mk H
  clear H
  go_enter Try.func61, Try.ntmps61
  go_wp2
  go_loopg [1, 5] k (fun kq v1 v5 w' => ∃ (x1_1 : Int) (x5_1 : Int), v1 = .int .i64 x1_1 ∧ v5 = .int .i64 x5_1 ∧ Aside0 (laws_heldLossS.l0 kq l0 x1_1 x5_1 = some r) ∧ Aside0 (kq ≤ k) ∧ Drawn0 w w')
  case atStart => exact ⟨(a1), (0), (by first | rfl | (simp; done) | (simp [*]; done) | (simp [Int.tdiv_eq_ediv_of_nonneg, *]; done)), (by first | rfl | (simp; done) | (simp [*]; done) | (simp [Int.tdiv_eq_ediv_of_nonneg, *]; done)), H', ⟨Nat.le_refl _⟩, by repeat (first | exact Drawn0.refl _ | apply Drawn0.step)⟩
  case round =>
    clear H'
    try clear p2
    obtain ⟨x1_1, x5_1, rfl, rfl, HA, HK1, ⟨m1, rfl⟩⟩ := hrel
    cases gk with
    | zero => exact absurd HA.out (by simp [laws_heldLossS.l0])
    | succ k1 =>
      have H := HA.out
      clear HA
      simp only [laws_heldLossS.l0] at H
      by_cases c3 : x5_1 < (l0.length : Int)
      · rw [if_pos c3] at H
        have c3b0 : decide (x5_1 < (l0.length : Int)) = true := decide_eq_true c3
        clear c3
        by_cases c4 : 0 ≤ x5_1
        · rw [if_pos c4] at H
          have c4b0 : decide (0 ≤ x5_1) = true := decide_eq_true c4
          clear c4
          by_cases c5 : ((rd_T107 l0 x5_1).f0) = x1_1
          · rw [if_pos c5] at H
            have c5b0 : (((rd_T107 l0 x5_1).f0) == x1_1) = true := beq_iff_eq.mpr c5
            have c5b1 : (((rd_T107 l0 x5_1).f0) != x1_1) = false := bne_eq_false_iff_eq.mpr c5
            clear c5
            by_cases c6 : ((rd_T107 l0 x5_1).f1) = (wrap64 (x1_1 + 1))
            · rw [if_pos c6] at H
              have c6b0 : (((rd_T107 l0 x5_1).f1) == (wrap64 (x1_1 + 1))) = true := beq_iff_eq.mpr c6
              have c6b1 : (((rd_T107 l0 x5_1).f1) != (wrap64 (x1_1 + 1))) = false := bne_eq_false_iff_eq.mpr c6
              clear c6
              by_cases c7 : ((rd_T107 l0 x5_1).f2) = (wrap64 ((wrap64 (x1_1 + 1)) + 1))
              · rw [if_pos c7] at H
                have c7b0 : (((rd_T107 l0 x5_1).f2) == (wrap64 ((wrap64 (x1_1 + 1)) + 1))) = true := beq_iff_eq.mpr c7
                have c7b1 : (((rd_T107 l0 x5_1).f2) != (wrap64 ((wrap64 (x1_1 + 1)) + 1))) = false := bne_eq_false_iff_eq.mpr c7
                clear c7
                have H' := Aside0.mk H
                clear H
                have p920 : 0 ≤ (x5_1 : Int) := of_decide_eq_true (by first | (with_reducible assumption) | assumption)
                have q920 : x5_1 < (l0.length : Int) := of_decide_eq_true (by first | (with_reducible assumption) | assumption)
                obtain ⟨ad920, e920, hx920_0, hx920_1, hx920_2⟩ := at_T107 HR0.out x5_1 p920 q920
                cases e920
                replace p920 := eq_true p920
                replace q920 := eq_true q920
                have p921 : 0 ≤ (x5_1 : Int) := of_decide_eq_true (by first | (with_reducible assumption) | assumption)
                have q921 : x5_1 < (l0.length : Int) := of_decide_eq_true (by first | (with_reducible assumption) | assumption)
                obtain ⟨ad921, e921, hx921_0, hx921_1, hx921_2⟩ := at_T107 HR0.out x5_1 p921 q921
                obtain rfl : ad920 = ad921 := (by injection e921)
                replace p921 := eq_true p921
                replace q921 := eq_true q921
                have p922 : 0 ≤ (x5_1 : Int) := of_decide_eq_true (by first | (with_reducible assumption) | assumption)
                have q922 : x5_1 < (l0.length : Int) := of_decide_eq_true (by first | (with_reducible assumption) | assumption)
                obtain ⟨ad922, e922, hx922_0, hx922_1, hx922_2⟩ := at_T107 HR0.out x5_1 p922 q922
                obtain rfl : ad920 = ad922 := (by injection e922)
                replace p922 := eq_true p922
                replace q922 := eq_true q922
                go_wp2
                go_roundg k1
                case measure => have := HK1.out; omega
                case rel => exact ⟨(wrap64 ((wrap64 ((wrap64 (x1_1 + 1)) + 1)) + 1)), (wrap64 (x5_1 + 1)), (by first | rfl | (simp; done) | (simp [*]; done) | (simp [Int.tdiv_eq_ediv_of_nonneg, *]; done)), (by first | rfl | (simp; done) | (simp [*]; done) | (simp [Int.tdiv_eq_ediv_of_nonneg, *]; done)), H', ⟨by have := HK1.out; omega⟩, by repeat (first | exact Drawn0.refl _ | apply Drawn0.step)⟩
              · rw [if_neg c7] at H
                have c7b0 : (((rd_T107 l0 x5_1).f2) == (wrap64 ((wrap64 (x1_1 + 1)) + 1))) = false := beq_eq_false_iff_ne.mpr c7
                have c7b1 : (((rd_T107 l0 x5_1).f2) != (wrap64 ((wrap64 (x1_1 + 1)) + 1))) = true := bne_iff_ne.mpr c7
                obtain rfl := Option.some.inj H
                have p920 : 0 ≤ (x5_1 : Int) := of_decide_eq_true (by first | (with_reducible assumption) | assumption)
                have q920 : x5_1 < (l0.length : Int) := of_decide_eq_true (by first | (with_reducible assumption) | assumption)
                obtain ⟨ad920, e920, hx920_0, hx920_1, hx920_2⟩ := at_T107 HR0.out x5_1 p920 q920
                cases e920
                replace p920 := eq_true p920
                replace q920 := eq_true q920
                have p921 : 0 ≤ (x5_1 : Int) := of_decide_eq_true (by first | (with_reducible assumption) | assumption)
                have q921 : x5_1 < (l0.length : Int) := of_decide_eq_true (by first | (with_reducible assumption) | assumption)
                obtain ⟨ad921, e921, hx921_0, hx921_1, hx921_2⟩ := at_T107 HR0.out x5_1 p921 q921
                obtain rfl : ad920 = ad921 := (by injection e921)
                replace p921 := eq_true p921
                replace q921 := eq_true q921
                have p922 : 0 ≤ (x5_1 : Int) := of_decide_eq_true (by first | (with_reducible assumption) | assumption)
                have q922 : x5_1 < (l0.length : Int) := of_decide_eq_true (by first | (with_reducible assumption) | assumption)
                obtain ⟨ad922, e922, hx922_0, hx922_1, hx922_2⟩ := at_T107 HR0.out x5_1 p922 q922
                obtain rfl : ad920 = ad922 := (by injection e922)
                replace p922 := eq_true p922
                replace q922 := eq_true q922
                go_wp2
                go_ret
                exact ⟨by first | rfl | (simp; done) | (simp [*]; done) | (simp [Int.tdiv_eq_ediv_of_nonneg, *]; done), by repeat (first | exact Drawn0.refl _ | apply Drawn0.step)⟩
            · rw [if_neg c6] at H
              have c6b0 : (((rd_T107 l0 x5_1).f1) == (wrap64 (x1_1 + 1))) = false := beq_eq_false_iff_ne.mpr c6
              have c6b1 : (((rd_T107 l0 x5_1).f1) != (wrap64 (x1_1 + 1))) = true := bne_iff_ne.mpr c6
              obtain rfl := Option.some.inj H
              have p920 : 0 ≤ (x5_1 : Int) := of_decide_eq_true (by first | (with_reducible assumption) | assumption)
              have q920 : x5_1 < (l0.length : Int) := of_decide_eq_true (by first | (with_reducible assumption) | assumption)
              obtain ⟨ad920, e920, hx920_0, hx920_1, hx920_2⟩ := at_T107 HR0.out x5_1 p920 q920
              cases e920
              replace p920 := eq_true p920
              replace q920 := eq_true q920
              have p921 : 0 ≤ (x5_1 : Int) := of_decide_eq_true (by first | (with_reducible assumption) | assumption)
              have q921 : x5_1 < (l0.length : Int) := of_decide_eq_true (by first | (with_reducible assumption) | assumption)
              obtain ⟨ad921, e921, hx921_0, hx921_1, hx921_2⟩ := at_T107 HR0.out x5_1 p921 q921
              obtain rfl : ad920 = ad921 := (by injection e921)
              replace p921 := eq_true p921
              replace q921 := eq_true q921
              go_wp2
              go_ret
              exact ⟨by first | rfl | (simp; done) | (simp [*]; done) | (simp [Int.tdiv_eq_ediv_of_nonneg, *]; done), by repeat (first | exact Drawn0.refl _ | apply Drawn0.step)⟩
          · rw [if_neg c5] at H
            have c5b0 : (((rd_T107 l0 x5_1).f0) == x1_1) = false := beq_eq_false_iff_ne.mpr c5
            have c5b1 : (((rd_T107 l0 x5_1).f0) != x1_1) = true := bne_iff_ne.mpr c5
            obtain rfl := Option.some.inj H
            have p920 : 0 ≤ (x5_1 : Int) := of_decide_eq_true (by first | (with_reducible assumption) | assumption)
            have q920 : x5_1 < (l0.length : Int) := of_decide_eq_true (by first | (with_reducible assumption) | assumption)
            obtain ⟨ad920, e920, hx920_0, hx920_1, hx920_2⟩ := at_T107 HR0.out x5_1 p920 q920
            cases e920
            replace p920 := eq_true p920
            replace q920 := eq_true q920
            go_wp2
            go_ret
            exact ⟨by first | rfl | (simp; done) | (simp [*]; done) | (simp [Int.tdiv_eq_ediv_of_nonneg, *]; done), by repeat (first | exact Drawn0.refl _ | apply Drawn0.step)⟩
        · rw [if_neg c4] at H
          exact absurd H (by simp)
      · rw [if_neg c3] at H
        have c3b0 : decide (x5_1 < (l0.length : Int)) = false := decide_eq_false c3
        clear c3
        obtain rfl := Option.some.inj H
        go_wp2
        go_ret
        exact ⟨by first | rfl | (simp; done) | (simp [*]; done) | (simp [Int.tdiv_eq_ediv_of_nonneg, *]; done), by repeat (first | exact Drawn0.refl _ | apply Drawn0.step)⟩

end Go.Proofs.Ytajndapolblhmab.P
-- Walks of this claim's functions, laid by a program of this session.
namespace Go.Proofs.Ytajndapolblhmab.P
open Go.RowKit Go.Proofs.YtajndapolblhmabW.PrintWords Go.Proofs.YtajndapolblhmabW.PrintLast Go.Proofs.YtajndapolblhmabW.PrintMore
attribute [local go_sem] max2_int min2_int max_two min_two max_three min_three max_four min_four   -- for this text's walks alone
set_option linter.unusedVariables false
set_option linter.unusedSimpArgs false

/-! ### laws_FnExactLossesOf: function 10 -/
mutual
def laws_FnExactLossesOf.j0 : Nat → List (S152) → Int → List (S107) → Bool → List (S148) → List (S107) → Bool → Bool → Option (Bool)
  | 0, _, _, _, _, _, _, _, _ => none
  | k + 1, x0, x1, x6, x7, x8, x9, x10, x44 => if x44 = true then (some false) else ((laws_toGroutS.f k x0).bind fun t939 => ((laws_eqGroutS.f k x8 t939).bind fun t942 => (if t942 = true then ((laws_markGroutS.f k x8 1).bind fun bt943 => (if bt943.1 < 0 then (laws_FnExactLossesOf.j1 k x0 x1 x6 x7 x9 true) else ((laws_eqLossS.f k x9 x6).bind fun t945 => (if t945 = true then (laws_FnExactLossesOf.j1 k x0 x1 x6 x7 x9 (x10 != x7)) else (laws_FnExactLossesOf.j1 k x0 x1 x6 x7 x9 true))))) else (some false))))
def laws_FnExactLossesOf.j1 : Nat → List (S152) → Int → List (S107) → Bool → List (S107) → Bool → Option (Bool)
  | 0, _, _, _, _, _, _ => none
  | k + 1, x0, x1, x6, x7, x9, x65 => if x65 = true then (some false) else ((laws_markLossS.f k x9 1).bind fun bt946 => ((laws_heldLossS.f k bt946.2 1).bind fun t948 => (if t948 < 0 then (some false) else (if t948 = bt946.1 then ((laws_toGroutS.f k x0).bind fun t949 => ((impl_LossesOf.f k t949 x1).bind fun bt952 => ((laws_eqLossS.f k bt952.1 x6).bind fun t956 => (if t956 = true then (laws_FnExactLossesOf.j2 k bt946.2 bt946.1 (bt952.2 != x7)) else (laws_FnExactLossesOf.j2 k bt946.2 bt946.1 true))))) else (some false)))))
def laws_FnExactLossesOf.j2 : Nat → List (S107) → Int → Bool → Option (Bool)
  | 0, _, _, _ => none
  | k + 1, x9, x12, x92 => if x92 = true then (some false) else ((laws_heldLossS.f k x9 1).bind fun t957 => (if t957 < 0 then (some false) else (if t957 = x12 then (some true) else (some false))))
end
def laws_FnExactLossesOf.f (k : Nat) (l0 : List (S152)) (a1 : Int) : Option (Bool) := (laws_szGroutS.f l0 1048576).bind fun t923 => (if t923 < 0 then (some true) else ((laws_toGroutS.f k l0).bind fun t924 => ((spec_LossesOf.f k t924 a1).bind fun bt927 => ((laws_toGroutS.f k l0).bind fun t931 => ((impl_LossesOf.f k t931 a1).bind fun bt934 => ((laws_eqLossS.f k bt934.1 bt927.1).bind fun t938 => (if t938 = true then (laws_FnExactLossesOf.j0 k l0 a1 bt927.1 bt927.2 t931 bt934.1 bt934.2 (bt934.2 != bt927.2)) else (laws_FnExactLossesOf.j0 k l0 a1 bt927.1 bt927.2 t931 bt934.1 bt934.2 true))))))))
theorem laws_FnExactLossesOf.mono_l : ∀ k, (∀ y0 y1 y2 y3 y4 y5 y6 y7, LeO (laws_FnExactLossesOf.j0 k y0 y1 y2 y3 y4 y5 y6 y7) (laws_FnExactLossesOf.j0 (k + 1) y0 y1 y2 y3 y4 y5 y6 y7)) ∧ (∀ y0 y1 y2 y3 y4 y5, LeO (laws_FnExactLossesOf.j1 k y0 y1 y2 y3 y4 y5) (laws_FnExactLossesOf.j1 (k + 1) y0 y1 y2 y3 y4 y5)) ∧ (∀ y0 y1 y2, LeO (laws_FnExactLossesOf.j2 k y0 y1 y2) (laws_FnExactLossesOf.j2 (k + 1) y0 y1 y2))
  | 0 => ⟨fun _ _ _ _ _ _ _ _ r h => by simp [laws_FnExactLossesOf.j0] at h, fun _ _ _ _ _ _ r h => by simp [laws_FnExactLossesOf.j1] at h, fun _ _ _ r h => by simp [laws_FnExactLossesOf.j2] at h⟩
  | k + 1 => by
    obtain ⟨ih0, ih1, ih2⟩ := laws_FnExactLossesOf.mono_l k
    refine ⟨?_, ?_, ?_⟩
    · intro y0 y1 y2 y3 y4 y5 y6 y7
      unfold laws_FnExactLossesOf.j0
      repeat' first
      | (with_reducible exact ih0 _ _ _ _ _ _ _ _)
      | (with_reducible exact ih1 _ _ _ _ _ _)
      | (with_reducible exact ih2 _ _ _)
      | (with_reducible exact impl_LossesOf.mono _ _ _)
      | (with_reducible exact laws_eqGroutS.mono _ _ _)
      | (with_reducible exact laws_eqLossS.mono _ _ _)
      | (with_reducible exact laws_heldLossS.mono _ _ _)
      | (with_reducible exact laws_markGroutS.mono _ _ _)
      | (with_reducible exact laws_markLossS.mono _ _ _)
      | (with_reducible exact laws_toGroutS.mono _ _)
      | (with_reducible exact spec_LossesOf.mono _ _ _)
      | (with_reducible exact LeO.refl _)
      | (with_reducible exact LeO.none _)
      | (with_reducible refine LeO.ite ?_ ?_)
      | (with_reducible refine LeO.bind ?_ (fun _ => ?_))
      | exact ih0 _ _ _ _ _ _ _ _
      | exact ih1 _ _ _ _ _ _
      | exact ih2 _ _ _
      | exact impl_LossesOf.mono _ _ _
      | exact laws_eqGroutS.mono _ _ _
      | exact laws_eqLossS.mono _ _ _
      | exact laws_heldLossS.mono _ _ _
      | exact laws_markGroutS.mono _ _ _
      | exact laws_markLossS.mono _ _ _
      | exact laws_toGroutS.mono _ _
      | exact spec_LossesOf.mono _ _ _
      | exact LeO.none _
      | refine LeO.ite ?_ ?_
      | refine LeO.bind ?_ (fun _ => ?_)
    · intro y0 y1 y2 y3 y4 y5
      unfold laws_FnExactLossesOf.j1
      repeat' first
      | (with_reducible exact ih0 _ _ _ _ _ _ _ _)
      | (with_reducible exact ih1 _ _ _ _ _ _)
      | (with_reducible exact ih2 _ _ _)
      | (with_reducible exact impl_LossesOf.mono _ _ _)
      | (with_reducible exact laws_eqGroutS.mono _ _ _)
      | (with_reducible exact laws_eqLossS.mono _ _ _)
      | (with_reducible exact laws_heldLossS.mono _ _ _)
      | (with_reducible exact laws_markGroutS.mono _ _ _)
      | (with_reducible exact laws_markLossS.mono _ _ _)
      | (with_reducible exact laws_toGroutS.mono _ _)
      | (with_reducible exact spec_LossesOf.mono _ _ _)
      | (with_reducible exact LeO.refl _)
      | (with_reducible exact LeO.none _)
      | (with_reducible refine LeO.ite ?_ ?_)
      | (with_reducible refine LeO.bind ?_ (fun _ => ?_))
      | exact ih0 _ _ _ _ _ _ _ _
      | exact ih1 _ _ _ _ _ _
      | exact ih2 _ _ _
      | exact impl_LossesOf.mono _ _ _
      | exact laws_eqGroutS.mono _ _ _
      | exact laws_eqLossS.mono _ _ _
      | exact laws_heldLossS.mono _ _ _
      | exact laws_markGroutS.mono _ _ _
      | exact laws_markLossS.mono _ _ _
      | exact laws_toGroutS.mono _ _
      | exact spec_LossesOf.mono _ _ _
      | exact LeO.none _
      | refine LeO.ite ?_ ?_
      | refine LeO.bind ?_ (fun _ => ?_)
    · intro y0 y1 y2
      unfold laws_FnExactLossesOf.j2
      repeat' first
      | (with_reducible exact ih0 _ _ _ _ _ _ _ _)
      | (with_reducible exact ih1 _ _ _ _ _ _)
      | (with_reducible exact ih2 _ _ _)
      | (with_reducible exact impl_LossesOf.mono _ _ _)
      | (with_reducible exact laws_eqGroutS.mono _ _ _)
      | (with_reducible exact laws_eqLossS.mono _ _ _)
      | (with_reducible exact laws_heldLossS.mono _ _ _)
      | (with_reducible exact laws_markGroutS.mono _ _ _)
      | (with_reducible exact laws_markLossS.mono _ _ _)
      | (with_reducible exact laws_toGroutS.mono _ _)
      | (with_reducible exact spec_LossesOf.mono _ _ _)
      | (with_reducible exact LeO.refl _)
      | (with_reducible exact LeO.none _)
      | (with_reducible refine LeO.ite ?_ ?_)
      | (with_reducible refine LeO.bind ?_ (fun _ => ?_))
      | exact ih0 _ _ _ _ _ _ _ _
      | exact ih1 _ _ _ _ _ _
      | exact ih2 _ _ _
      | exact impl_LossesOf.mono _ _ _
      | exact laws_eqGroutS.mono _ _ _
      | exact laws_eqLossS.mono _ _ _
      | exact laws_heldLossS.mono _ _ _
      | exact laws_markGroutS.mono _ _ _
      | exact laws_markLossS.mono _ _ _
      | exact laws_toGroutS.mono _ _
      | exact spec_LossesOf.mono _ _ _
      | exact LeO.none _
      | refine LeO.ite ?_ ?_
      | refine LeO.bind ?_ (fun _ => ?_)
theorem laws_FnExactLossesOf.mono : ∀ a0 a1 k, LeO (laws_FnExactLossesOf.f k a0 a1) (laws_FnExactLossesOf.f (k + 1) a0 a1) := by
  intro a0 a1 k
  obtain ⟨ih0, ih1, ih2⟩ := laws_FnExactLossesOf.mono_l k
  unfold laws_FnExactLossesOf.f
  repeat' first
      | (with_reducible exact ih0 _ _ _ _ _ _ _ _)
      | (with_reducible exact ih1 _ _ _ _ _ _)
      | (with_reducible exact ih2 _ _ _)
      | (with_reducible exact impl_LossesOf.mono _ _ _)
      | (with_reducible exact laws_eqGroutS.mono _ _ _)
      | (with_reducible exact laws_eqLossS.mono _ _ _)
      | (with_reducible exact laws_heldLossS.mono _ _ _)
      | (with_reducible exact laws_markGroutS.mono _ _ _)
      | (with_reducible exact laws_markLossS.mono _ _ _)
      | (with_reducible exact laws_toGroutS.mono _ _)
      | (with_reducible exact spec_LossesOf.mono _ _ _)
      | (with_reducible exact LeO.refl _)
      | (with_reducible exact LeO.none _)
      | (with_reducible refine LeO.ite ?_ ?_)
      | (with_reducible refine LeO.bind ?_ (fun _ => ?_))
      | exact ih0 _ _ _ _ _ _ _ _
      | exact ih1 _ _ _ _ _ _
      | exact ih2 _ _ _
      | exact impl_LossesOf.mono _ _ _
      | exact laws_eqGroutS.mono _ _ _
      | exact laws_eqLossS.mono _ _ _
      | exact laws_heldLossS.mono _ _ _
      | exact laws_markGroutS.mono _ _ _
      | exact laws_markLossS.mono _ _ _
      | exact laws_toGroutS.mono _ _
      | exact spec_LossesOf.mono _ _ _
      | exact LeO.none _
      | refine LeO.ite ?_ ?_
      | refine LeO.bind ?_ (fun _ => ?_)
set_option maxHeartbeats 8000000 in
set_option maxRecDepth 100000 in
theorem laws_FnExactLossesOf.calls (k : Nat) (A0 : Option Addr) (c0 : Nat) (l0 : List (S152)) (a1 : Int) (r : Bool) (w : World) (hr0 : Kd.C k152 w A0 l0.length l0) (hc0 : l0.length ≤ c0) (h : laws_FnExactLossesOf.f k l0 a1 = some r) :
    Calls Try.prog 10 #[.slice A0 l0.length c0, .int .i64 a1] w fun e w' => e = .returned (.bool r) ∧ Below w.heap.size w w' := by
  have HR0 := Aside0.mk hr0
  have HC0 := Aside0.mk hc0
  clear hr0 hc0
  have HB := Aside0.mk (Below.refl w.heap.size w)
  have H : ((laws_szGroutS.f l0 1048576).bind fun t923 => (if t923 < 0 then (some true) else ((laws_toGroutS.f k l0).bind fun t924 => ((spec_LossesOf.f k t924 a1).bind fun bt927 => ((laws_toGroutS.f k l0).bind fun t931 => ((impl_LossesOf.f k t931 a1).bind fun bt934 => ((laws_eqLossS.f k bt934.1 bt927.1).bind fun t938 => (if t938 = true then (laws_FnExactLossesOf.j0 k l0 a1 bt927.1 bt927.2 t931 bt934.1 bt934.2 (bt934.2 != bt927.2)) else (laws_FnExactLossesOf.j0 k l0 a1 bt927.1 bt927.2 t931 bt934.1 bt934.2 true))))))))) = some r := h
  clear h
  replace H := Option.bind_eq_some_iff.mp H
  obtain ⟨t923, A30, H⟩ := H
  replace H : (if t923 < 0 then (some true) else ((laws_toGroutS.f k l0).bind fun t924 => ((spec_LossesOf.f k t924 a1).bind fun bt927 => ((laws_toGroutS.f k l0).bind fun t931 => ((impl_LossesOf.f k t931 a1).bind fun bt934 => ((laws_eqLossS.f k bt934.1 bt927.1).bind fun t938 => (if t938 = true then (laws_FnExactLossesOf.j0 k l0 a1 bt927.1 bt927.2 t931 bt934.1 bt934.2 (bt934.2 != bt927.2)) else (laws_FnExactLossesOf.j0 k l0 a1 bt927.1 bt927.2 t931 bt934.1 bt934.2 true)))))))) = some r := H
  have A3 := Aside0.mk A30
  clear A30
  by_cases c4 : t923 < 0
  · rw [if_pos c4] at H
    have c4b0 : decide (t923 < 0) = true := decide_eq_true c4
    clear c4
    obtain rfl := Option.some.inj H
    go_enter Try.func10, Try.ntmps10
    go_wp2_with (first | ((with_reducible refine gate_callee (f := 55) rfl ?_); refine goesL_ (some 18) rfl rfl Try.func55 (by kernel_rfl) rfl #[.slice A0 l0.length c0, .int .i64 1048576] rfl (by (try simp only [List.map_toArray, List.map_cons, List.map_nil]); first | done | rfl | (simp only [List.length_drop, List.length_take]; rfl)) ?_; (with_reducible refine (laws_szGroutS.calls _ _ l0 1048576 t923 _ ?side1 ?side2 A3.out).mono ?_); (case side1 => repeat (first | exact HR0.out | (with_reducible refine Kd.C_alloc ?_ _) | (with_reducible refine Kd.C_drewN ?_ _) | (with_reducible refine Kd.C_drew ?_))); (case side2 => exact HC0.out); rintro e w' ⟨rfl, ⟨nd, rfl⟩⟩; refine ⟨_, rfl, ?_⟩))
    go_ret
    exact ⟨by first | rfl | (simp [errW_none, errW_some] <;> rfl) | (simp [*, errW_none, errW_some] <;> rfl) | (simp [Int.tdiv_eq_ediv_of_nonneg, *]; done), by repeat (first | (with_reducible first | exact HB.out | apply below_alloc | apply pw_below_drewN | apply below_drew1) | exact HB.out)⟩
  · rw [if_neg c4] at H
    have c4b0 : decide (t923 < 0) = false := decide_eq_false c4
    clear c4
    replace H := Option.bind_eq_some_iff.mp H
    obtain ⟨t924, A50, H⟩ := H
    replace H : ((spec_LossesOf.f k t924 a1).bind fun bt927 => ((laws_toGroutS.f k l0).bind fun t931 => ((impl_LossesOf.f k t931 a1).bind fun bt934 => ((laws_eqLossS.f k bt934.1 bt927.1).bind fun t938 => (if t938 = true then (laws_FnExactLossesOf.j0 k l0 a1 bt927.1 bt927.2 t931 bt934.1 bt934.2 (bt934.2 != bt927.2)) else (laws_FnExactLossesOf.j0 k l0 a1 bt927.1 bt927.2 t931 bt934.1 bt934.2 true)))))) = some r := H
    have A5 := Aside0.mk A50
    clear A50
    replace H := Option.bind_eq_some_iff.mp H
    obtain ⟨⟨t927, t928⟩, A60, H⟩ := H
    replace H : ((laws_toGroutS.f k l0).bind fun t931 => ((impl_LossesOf.f k t931 a1).bind fun bt934 => ((laws_eqLossS.f k bt934.1 t927).bind fun t938 => (if t938 = true then (laws_FnExactLossesOf.j0 k l0 a1 t927 t928 t931 bt934.1 bt934.2 (bt934.2 != t928)) else (laws_FnExactLossesOf.j0 k l0 a1 t927 t928 t931 bt934.1 bt934.2 true))))) = some r := H
    have A6 := Aside0.mk A60
    clear A60
    replace H := Option.bind_eq_some_iff.mp H
    obtain ⟨t931, A70, H⟩ := H
    replace H : ((impl_LossesOf.f k t931 a1).bind fun bt934 => ((laws_eqLossS.f k bt934.1 t927).bind fun t938 => (if t938 = true then (laws_FnExactLossesOf.j0 k l0 a1 t927 t928 t931 bt934.1 bt934.2 (bt934.2 != t928)) else (laws_FnExactLossesOf.j0 k l0 a1 t927 t928 t931 bt934.1 bt934.2 true)))) = some r := H
    have A7 := Aside0.mk A70
    clear A70
    replace H := Option.bind_eq_some_iff.mp H
    obtain ⟨⟨t934, t935⟩, A80, H⟩ := H
    replace H : ((laws_eqLossS.f k t934 t927).bind fun t938 => (if t938 = true then (laws_FnExactLossesOf.j0 k l0 a1 t927 t928 t931 t934 t935 (t935 != t928)) else (laws_FnExactLossesOf.j0 k l0 a1 t927 t928 t931 t934 t935 true))) = some r := H
    have A8 := Aside0.mk A80
    clear A80
    have HC9 := Aside0.mk H
    clear H
    go_enter Try.func10, Try.ntmps10
    go_upto_region 8 with (first | ((with_reducible refine gate_callee (f := 55) rfl ?_); refine goesL_ (some 18) rfl rfl Try.func55 (by kernel_rfl) rfl #[.slice A0 l0.length c0, .int .i64 1048576] rfl (by (try simp only [List.map_toArray, List.map_cons, List.map_nil]); first | done | rfl | (simp only [List.length_drop, List.length_take]; rfl)) ?_; (with_reducible refine (laws_szGroutS.calls _ _ l0 1048576 t923 _ ?side1 ?side2 A3.out).mono ?_); (case side1 => repeat (first | exact HR0.out | (with_reducible refine Kd.C_alloc ?_ _) | (with_reducible refine Kd.C_drewN ?_ _) | (with_reducible refine Kd.C_drew ?_))); (case side2 => exact HC0.out); rintro e w' ⟨rfl, ⟨nd, rfl⟩⟩; refine ⟨_, rfl, ?_⟩) | ((with_reducible refine gate_callee (f := 57) rfl ?_); refine goesL_ (some 23) rfl rfl Try.func57 (by kernel_rfl) rfl #[.slice A0 l0.length c0] rfl (by (try simp only [List.map_toArray, List.map_cons, List.map_nil]); first | done | rfl | (simp only [List.length_drop, List.length_take]; rfl)) ?_; (with_reducible refine (laws_toGroutS.calls k _ _ l0 t924 _ ?side1 ?side2 A5.out).mono ?_); (case side1 => repeat (first | exact HR0.out | (with_reducible refine Kd.C_alloc ?_ _) | (with_reducible refine Kd.C_drewN ?_ _) | (with_reducible refine Kd.C_drew ?_))); (case side2 => exact HC0.out); rintro e w10 ⟨v925, rfl, ho0, hb⟩; refine ⟨_, rfl, ?_⟩; have n0_ := Aside0.mk (Kd.R_lower ho0 (below_size (by repeat (first | (with_reducible first | exact HB.out | apply below_alloc | apply pw_below_drewN | apply below_drew1) | exact HB.out)))); have n1_ := Aside0.mk (below_step (by repeat (first | (with_reducible first | exact HB.out | apply below_alloc | apply pw_below_drewN | apply below_drew1) | exact HB.out)) hb); clear HB; have HO926 := n0_; have HB := n1_; clear n0_ n1_; (try clear hb); (try clear hb2); (try clear hk); (try clear hi); (try clear ho0); obtain ⟨Ao11, co11, eo11⟩ := Kd.R_slice HO926.out; subst eo11) | ((with_reducible refine gate_callee (f := 56) rfl ?_); refine goesL_ (some 25) rfl rfl Try.func56 (by kernel_rfl) rfl #[.slice Ao11 t924.length co11, .int .i64 a1] rfl (by (try simp only [List.map_toArray, List.map_cons, List.map_nil]); first | done | rfl | (simp only [List.length_drop, List.length_take]; rfl)) ?_; (with_reducible refine (spec_LossesOf.calls k _ _ t924 a1 t927 t928 _ ?side1 ?side2 A6.out).mono ?_); (case side1 => repeat (first | exact (Kd.R_reads' HO926.out).2.2 | (with_reducible refine Kd.C_alloc ?_ _) | (with_reducible refine Kd.C_drewN ?_ _) | (with_reducible refine Kd.C_drew ?_))); (case side2 => exact (Kd.R_reads' HO926.out).2.1); rintro e w12 ⟨v929, rfl, ho0, hb⟩; refine ⟨_, rfl, ?_⟩; have n0_ := Aside0.mk (Kd.R_below (by (with_reducible repeat (first | apply Kd.R_alloc | apply Kd.R_drewN | apply Kd.R_drew)); exact HO926.out) hb); have n1_ := Aside0.mk (Kd.R_lower ho0 (below_size (by repeat (first | (with_reducible first | exact HB.out | apply below_alloc | apply pw_below_drewN | apply below_drew1) | exact HB.out)))); have n2_ := Aside0.mk (below_step (by repeat (first | (with_reducible first | exact HB.out | apply below_alloc | apply pw_below_drewN | apply below_drew1) | exact HB.out)) hb); clear HO926; clear HB; have HO926 := n0_; have HO930 := n1_; have HB := n2_; clear n0_ n1_ n2_; (try clear hb); (try clear hb2); (try clear hk); (try clear hi); (try clear ho0)) | ((with_reducible refine gate_callee (f := 57) rfl ?_); refine goesL_ (some 29) rfl rfl Try.func57 (by kernel_rfl) rfl #[.slice A0 l0.length c0] rfl (by (try simp only [List.map_toArray, List.map_cons, List.map_nil]); first | done | rfl | (simp only [List.length_drop, List.length_take]; rfl)) ?_; (with_reducible refine (laws_toGroutS.calls k _ _ l0 t931 _ ?side1 ?side2 A7.out).mono ?_); (case side1 => repeat (first | exact (Kd.C_below HR0.out HB.out) | (with_reducible refine Kd.C_alloc ?_ _) | (with_reducible refine Kd.C_drewN ?_ _) | (with_reducible refine Kd.C_drew ?_))); (case side2 => exact HC0.out); rintro e w13 ⟨v932, rfl, ho0, hb⟩; refine ⟨_, rfl, ?_⟩; have n0_ := Aside0.mk (Kd.R_elder' (by (with_reducible repeat (first | apply Kd.R_alloc | apply Kd.R_drewN | apply Kd.R_drew)); exact HO926.out) (Kd.R_base ho0) hb); have n1_ := Aside0.mk (Kd.R_below (by (with_reducible repeat (first | apply Kd.R_alloc | apply Kd.R_drewN | apply Kd.R_drew)); exact HO930.out) hb); have n2_ := Aside0.mk (Kd.R_lower (Kd.R_new' ho0 (Kd.R_lt (by (with_reducible repeat (first | apply Kd.R_alloc | apply Kd.R_drewN | apply Kd.R_drew)); exact HO926.out))) (below_size (by repeat (first | (with_reducible first | exact HB.out | apply below_alloc | apply pw_below_drewN | apply below_drew1) | exact HB.out)))); have n3_ := Aside0.mk (below_step (by repeat (first | (with_reducible first | exact HB.out | apply below_alloc | apply pw_below_drewN | apply below_drew1) | exact HB.out)) hb); clear HO926; clear HO930; clear HB; have HO926 := n0_; have HO930 := n1_; have HO933 := n2_; have HB := n3_; clear n0_ n1_ n2_ n3_; (try clear hb); (try clear hb2); (try clear hk); (try clear hi); (try clear ho0); obtain ⟨Ao14, co14, eo14⟩ := Kd.R_slice HO933.out; subst eo14) | ((with_reducible refine gate_callee (f := 58) rfl ?_); refine goesL_ (some 33) rfl rfl Try.func58 (by kernel_rfl) rfl #[.slice Ao14 t931.length co14, .int .i64 a1] rfl (by (try simp only [List.map_toArray, List.map_cons, List.map_nil]); first | done | rfl | (simp only [List.length_drop, List.length_take]; rfl)) ?_; (with_reducible refine (impl_LossesOf.calls k _ _ t931 a1 t934 t935 _ ?side1 ?side2 A8.out).mono ?_); (case side1 => repeat (first | exact (Kd.R_reads' HO933.out).2.2 | (with_reducible refine Kd.C_alloc ?_ _) | (with_reducible refine Kd.C_drewN ?_ _) | (with_reducible refine Kd.C_drew ?_))); (case side2 => exact (Kd.R_reads' HO933.out).2.1); rintro e w15 ⟨v936, rfl, ho0, hb⟩; refine ⟨_, rfl, ?_⟩; have n0_ := Aside0.mk (Kd.R_below (by (with_reducible repeat (first | apply Kd.R_alloc | apply Kd.R_drewN | apply Kd.R_drew)); exact HO926.out) hb); have n1_ := Aside0.mk (Kd.R_elder' (by (with_reducible repeat (first | apply Kd.R_alloc | apply Kd.R_drewN | apply Kd.R_drew)); exact HO930.out) (Kd.R_base ho0) hb); have n2_ := Aside0.mk (Kd.R_below (by (with_reducible repeat (first | apply Kd.R_alloc | apply Kd.R_drewN | apply Kd.R_drew)); exact HO933.out) hb); have n3_ := Aside0.mk (Kd.R_lower (Kd.R_new' ho0 (Kd.R_lt (by (with_reducible repeat (first | apply Kd.R_alloc | apply Kd.R_drewN | apply Kd.R_drew)); exact HO930.out))) (below_size (by repeat (first | (with_reducible first | exact HB.out | apply below_alloc | apply pw_below_drewN | apply below_drew1) | exact HB.out)))); have n4_ := Aside0.mk (below_step (by repeat (first | (with_reducible first | exact HB.out | apply below_alloc | apply pw_below_drewN | apply below_drew1) | exact HB.out)) hb); clear HO926; clear HO930; clear HO933; clear HB; have HO926 := n0_; have HO930 := n1_; have HO933 := n2_; have HO937 := n3_; have HB := n4_; clear n0_ n1_ n2_ n3_ n4_; (try clear hb); (try clear hb2); (try clear hk); (try clear hi); (try clear ho0)))
    (try simp only [Act.put, List.setIfInBounds_toArray, List.set_cons_zero, List.set_cons_succ])
    go_cut [44] (fun v44 wc => ∃ (kq : Nat) (x44_8 : Bool), v44 = .bool x44_8 ∧ Aside0 (laws_FnExactLossesOf.j0 kq l0 a1 t927 t928 t931 t934 t935 x44_8 = some r) ∧ Aside0 (kq ≤ k) ∧ Aside0 (Kd.R k107 107 wc w.heap.size (fun k_ => some k_ ≠ (v936 : Value).ownBlock) v929 t927) ∧ Aside0 (Kd.R k148 148 wc w.heap.size (fun _ => True) (.slice Ao14 t931.length co14) t931) ∧ Aside0 (Kd.R k107 107 wc w.heap.size (fun k_ => some k_ ≠ (v929 : Value).ownBlock) v936 t934) ∧ Aside0 (Below w.heap.size w wc))
    case first =>
      have H := HC9.out
      clear HC9
      replace H := Option.bind_eq_some_iff.mp H
      obtain ⟨t938, A160, H⟩ := H
      replace H : (if t938 = true then (laws_FnExactLossesOf.j0 k l0 a1 t927 t928 t931 t934 t935 (t935 != t928)) else (laws_FnExactLossesOf.j0 k l0 a1 t927 t928 t931 t934 t935 true)) = some r := H
      have A16 := Aside0.mk A160
      clear A160
      by_cases c17 : t938 = true
      · subst c17
        have H1 : (laws_FnExactLossesOf.j0 k l0 a1 t927 t928 t931 t934 t935 (t935 != t928)) = some r := by rw [if_pos rfl] at H; exact H
        clear H
        have H := H1
        clear H1
        have H' := Aside0.mk H
        clear H
        obtain ⟨Ao18, co18, eo18⟩ := Kd.R_slice HO937.out
        subst eo18
        obtain ⟨Ao19, co19, eo19⟩ := Kd.R_slice HO930.out
        subst eo19
        go_wp2_with (first | ((with_reducible refine gate_callee (f := 35) rfl ?_); refine goesL_ (some 38) rfl rfl Try.func35 (by kernel_rfl) rfl #[.slice Ao18 t934.length co18, .slice Ao19 t927.length co19] rfl (by (try simp only [List.map_toArray, List.map_cons, List.map_nil]); first | done | rfl | (simp only [List.length_drop, List.length_take]; rfl)) ?_; (with_reducible refine (laws_eqLossS.calls k _ _ t934 _ _ t927 true _ ?side1 ?side2 ?side3 ?side4 A16.out).mono ?_); (case side1 => repeat (first | exact (Kd.R_reads' HO937.out).2.2 | (with_reducible refine Kd.C_alloc ?_ _) | (with_reducible refine Kd.C_drewN ?_ _) | (with_reducible refine Kd.C_drew ?_))); (case side2 => exact (Kd.R_reads' HO937.out).2.1); (case side3 => repeat (first | exact (Kd.R_reads' HO930.out).2.2 | (with_reducible refine Kd.C_alloc ?_ _) | (with_reducible refine Kd.C_drewN ?_ _) | (with_reducible refine Kd.C_drew ?_))); (case side4 => exact (Kd.R_reads' HO930.out).2.1); rintro e w20 ⟨rfl, hb⟩; refine ⟨_, rfl, ?_⟩; have n0_ := Aside0.mk (Kd.R_below (by (with_reducible repeat (first | apply Kd.R_alloc | apply Kd.R_drewN | apply Kd.R_drew)); exact HO926.out) hb); have n1_ := Aside0.mk (Kd.R_below (by (with_reducible repeat (first | apply Kd.R_alloc | apply Kd.R_drewN | apply Kd.R_drew)); exact HO930.out) hb); have n2_ := Aside0.mk (Kd.R_below (by (with_reducible repeat (first | apply Kd.R_alloc | apply Kd.R_drewN | apply Kd.R_drew)); exact HO933.out) hb); have n3_ := Aside0.mk (Kd.R_below (by (with_reducible repeat (first | apply Kd.R_alloc | apply Kd.R_drewN | apply Kd.R_drew)); exact HO937.out) hb); have n4_ := Aside0.mk (below_step (by repeat (first | (with_reducible first | exact HB.out | apply below_alloc | apply pw_below_drewN | apply below_drew1) | exact HB.out)) hb); clear HO926; clear HO930; clear HO933; clear HO937; clear HB; have HO926 := n0_; have HO930 := n1_; have HO933 := n2_; have HO937 := n3_; have HB := n4_; clear n0_ n1_ n2_ n3_ n4_; (try clear hb); (try clear hb2); (try clear hk); (try clear hi)))
        go_meet
        case rel => exact ⟨_, ((t935 != t928)), (by first | rfl | (simp; done) | (simp [*]; done) | (simp [Int.tdiv_eq_ediv_of_nonneg, *]; done)), H', ⟨by first | omega | exact Nat.le_refl _⟩, ⟨by (with_reducible repeat (first | apply Kd.R_alloc | apply Kd.R_drewN | apply Kd.R_drew)); exact Kd.R_mono HO930.out (fun _ hk => hk.2)⟩, ⟨by (with_reducible repeat (first | apply Kd.R_alloc | apply Kd.R_drewN | apply Kd.R_drew)); exact Kd.R_mono HO933.out (fun _ hk => trivial)⟩, ⟨by (with_reducible repeat (first | apply Kd.R_alloc | apply Kd.R_drewN | apply Kd.R_drew)); exact Kd.R_mono HO937.out (fun _ hk => hk.2)⟩, ⟨by repeat (first | (with_reducible first | exact HB.out | apply below_alloc | apply pw_below_drewN | apply below_drew1) | exact HB.out)⟩⟩
      · replace c17 := Bool.eq_false_iff.mpr c17
        subst c17
        have H1 : (laws_FnExactLossesOf.j0 k l0 a1 t927 t928 t931 t934 t935 true) = some r := by rw [if_neg (show ¬ (false = true) by decide)] at H; exact H
        clear H
        have H := H1
        clear H1
        have H' := Aside0.mk H
        clear H
        obtain ⟨Ao21, co21, eo21⟩ := Kd.R_slice HO937.out
        subst eo21
        obtain ⟨Ao22, co22, eo22⟩ := Kd.R_slice HO930.out
        subst eo22
        go_wp2_with (first | ((with_reducible refine gate_callee (f := 35) rfl ?_); refine goesL_ (some 38) rfl rfl Try.func35 (by kernel_rfl) rfl #[.slice Ao21 t934.length co21, .slice Ao22 t927.length co22] rfl (by (try simp only [List.map_toArray, List.map_cons, List.map_nil]); first | done | rfl | (simp only [List.length_drop, List.length_take]; rfl)) ?_; (with_reducible refine (laws_eqLossS.calls k _ _ t934 _ _ t927 false _ ?side1 ?side2 ?side3 ?side4 A16.out).mono ?_); (case side1 => repeat (first | exact (Kd.R_reads' HO937.out).2.2 | (with_reducible refine Kd.C_alloc ?_ _) | (with_reducible refine Kd.C_drewN ?_ _) | (with_reducible refine Kd.C_drew ?_))); (case side2 => exact (Kd.R_reads' HO937.out).2.1); (case side3 => repeat (first | exact (Kd.R_reads' HO930.out).2.2 | (with_reducible refine Kd.C_alloc ?_ _) | (with_reducible refine Kd.C_drewN ?_ _) | (with_reducible refine Kd.C_drew ?_))); (case side4 => exact (Kd.R_reads' HO930.out).2.1); rintro e w23 ⟨rfl, hb⟩; refine ⟨_, rfl, ?_⟩; have n0_ := Aside0.mk (Kd.R_below (by (with_reducible repeat (first | apply Kd.R_alloc | apply Kd.R_drewN | apply Kd.R_drew)); exact HO926.out) hb); have n1_ := Aside0.mk (Kd.R_below (by (with_reducible repeat (first | apply Kd.R_alloc | apply Kd.R_drewN | apply Kd.R_drew)); exact HO930.out) hb); have n2_ := Aside0.mk (Kd.R_below (by (with_reducible repeat (first | apply Kd.R_alloc | apply Kd.R_drewN | apply Kd.R_drew)); exact HO933.out) hb); have n3_ := Aside0.mk (Kd.R_below (by (with_reducible repeat (first | apply Kd.R_alloc | apply Kd.R_drewN | apply Kd.R_drew)); exact HO937.out) hb); have n4_ := Aside0.mk (below_step (by repeat (first | (with_reducible first | exact HB.out | apply below_alloc | apply pw_below_drewN | apply below_drew1) | exact HB.out)) hb); clear HO926; clear HO930; clear HO933; clear HO937; clear HB; have HO926 := n0_; have HO930 := n1_; have HO933 := n2_; have HO937 := n3_; have HB := n4_; clear n0_ n1_ n2_ n3_ n4_; (try clear hb); (try clear hb2); (try clear hk); (try clear hi)))
        go_meet
        case rel => exact ⟨_, (true), (by first | rfl | (simp; done) | (simp [*]; done) | (simp [Int.tdiv_eq_ediv_of_nonneg, *]; done)), H', ⟨by first | omega | exact Nat.le_refl _⟩, ⟨by (with_reducible repeat (first | apply Kd.R_alloc | apply Kd.R_drewN | apply Kd.R_drew)); exact Kd.R_mono HO930.out (fun _ hk => hk.2)⟩, ⟨by (with_reducible repeat (first | apply Kd.R_alloc | apply Kd.R_drewN | apply Kd.R_drew)); exact Kd.R_mono HO933.out (fun _ hk => trivial)⟩, ⟨by (with_reducible repeat (first | apply Kd.R_alloc | apply Kd.R_drewN | apply Kd.R_drew)); exact Kd.R_mono HO937.out (fun _ hk => hk.2)⟩, ⟨by repeat (first | (with_reducible first | exact HB.out | apply below_alloc | apply pw_below_drewN | apply below_drew1) | exact HB.out)⟩⟩
    case rest =>
      clear HC9
      try clear c1
      try clear p2
      try clear c3
      try clear c4
      try clear c4b0
      try clear c5
      try clear c10
      try clear c17
      obtain ⟨kq, x44_8, rfl, HA, HJ8, HO_6, HO_8, HO_9, HB⟩ := hcut
      cases kq with
      | zero => exact absurd HA.out (by simp [laws_FnExactLossesOf.j0])
      | succ kj8 =>
        have H := HA.out
        clear HA
        simp only [laws_FnExactLossesOf.j0] at H
        by_cases c24 : x44_8 = true
        · subst c24
          have H1 : (some false) = some r := by rw [if_pos rfl] at H; exact H
          clear H
          have H := H1
          clear H1
          obtain rfl := Option.some.inj H
          go_wp2
          go_ret
          exact ⟨by first | rfl | (simp [errW_none, errW_some] <;> rfl) | (simp [*, errW_none, errW_some] <;> rfl) | (simp [Int.tdiv_eq_ediv_of_nonneg, *]; done), by repeat (first | (with_reducible first | exact HB.out | apply below_alloc | apply pw_below_drewN | apply below_drew1) | exact HB.out)⟩
        · replace c24 := Bool.eq_false_iff.mpr c24
          subst c24
          have H1 : ((laws_toGroutS.f kj8 l0).bind fun t939 => ((laws_eqGroutS.f kj8 t931 t939).bind fun t942 => (if t942 = true then ((laws_markGroutS.f kj8 t931 1).bind fun bt943 => (if bt943.1 < 0 then (laws_FnExactLossesOf.j1 kj8 l0 a1 t927 t928 t934 true) else ((laws_eqLossS.f kj8 t934 t927).bind fun t945 => (if t945 = true then (laws_FnExactLossesOf.j1 kj8 l0 a1 t927 t928 t934 (t935 != t928)) else (laws_FnExactLossesOf.j1 kj8 l0 a1 t927 t928 t934 true))))) else (some false)))) = some r := by rw [if_neg (show ¬ (false = true) by decide)] at H; exact H
          clear H
          have H := H1
          clear H1
          replace H := Option.bind_eq_some_iff.mp H
          obtain ⟨t939, A250, H⟩ := H
          replace H : ((laws_eqGroutS.f kj8 t931 t939).bind fun t942 => (if t942 = true then ((laws_markGroutS.f kj8 t931 1).bind fun bt943 => (if bt943.1 < 0 then (laws_FnExactLossesOf.j1 kj8 l0 a1 t927 t928 t934 true) else ((laws_eqLossS.f kj8 t934 t927).bind fun t945 => (if t945 = true then (laws_FnExactLossesOf.j1 kj8 l0 a1 t927 t928 t934 (t935 != t928)) else (laws_FnExactLossesOf.j1 kj8 l0 a1 t927 t928 t934 true))))) else (some false))) = some r := H
          have A25 := Aside0.mk A250
          clear A250
          replace H := Option.bind_eq_some_iff.mp H
          obtain ⟨t942, A260, H⟩ := H
          replace H : (if t942 = true then ((laws_markGroutS.f kj8 t931 1).bind fun bt943 => (if bt943.1 < 0 then (laws_FnExactLossesOf.j1 kj8 l0 a1 t927 t928 t934 true) else ((laws_eqLossS.f kj8 t934 t927).bind fun t945 => (if t945 = true then (laws_FnExactLossesOf.j1 kj8 l0 a1 t927 t928 t934 (t935 != t928)) else (laws_FnExactLossesOf.j1 kj8 l0 a1 t927 t928 t934 true))))) else (some false)) = some r := H
          have A26 := Aside0.mk A260
          clear A260
          by_cases c27 : t942 = true
          · subst c27
            have H1 : ((laws_markGroutS.f kj8 t931 1).bind fun bt943 => (if bt943.1 < 0 then (laws_FnExactLossesOf.j1 kj8 l0 a1 t927 t928 t934 true) else ((laws_eqLossS.f kj8 t934 t927).bind fun t945 => (if t945 = true then (laws_FnExactLossesOf.j1 kj8 l0 a1 t927 t928 t934 (t935 != t928)) else (laws_FnExactLossesOf.j1 kj8 l0 a1 t927 t928 t934 true))))) = some r := by rw [if_pos rfl] at H; exact H
            clear H
            have H := H1
            clear H1
            replace H := Option.bind_eq_some_iff.mp H
            obtain ⟨⟨t943, t944⟩, A280, H⟩ := H
            replace H : (if t943 < 0 then (laws_FnExactLossesOf.j1 kj8 l0 a1 t927 t928 t934 true) else ((laws_eqLossS.f kj8 t934 t927).bind fun t945 => (if t945 = true then (laws_FnExactLossesOf.j1 kj8 l0 a1 t927 t928 t934 (t935 != t928)) else (laws_FnExactLossesOf.j1 kj8 l0 a1 t927 t928 t934 true)))) = some r := H
            have A28 := Aside0.mk A280
            clear A280
            have HC29 := Aside0.mk H
            clear H
            go_upto_region 14 with (first | ((with_reducible refine gate_callee (f := 57) rfl ?_); refine goesL_ (some 47) rfl rfl Try.func57 (by kernel_rfl) rfl #[.slice A0 l0.length c0] rfl (by (try simp only [List.map_toArray, List.map_cons, List.map_nil]); first | done | rfl | (simp only [List.length_drop, List.length_take]; rfl)) ?_; (with_reducible refine (laws_toGroutS.calls kj8 _ _ l0 t939 _ ?side1 ?side2 A25.out).mono ?_); (case side1 => repeat (first | exact (Kd.C_below HR0.out HB.out) | (with_reducible refine Kd.C_alloc ?_ _) | (with_reducible refine Kd.C_drewN ?_ _) | (with_reducible refine Kd.C_drew ?_))); (case side2 => exact HC0.out); rintro e w30 ⟨v940, rfl, ho0, hb⟩; refine ⟨_, rfl, ?_⟩; have n0_ := Aside0.mk (Kd.R_below (by (with_reducible repeat (first | apply Kd.R_alloc | apply Kd.R_drewN | apply Kd.R_drew)); exact HO_6.out) hb); have n1_ := Aside0.mk (Kd.R_elder' (by (with_reducible repeat (first | apply Kd.R_alloc | apply Kd.R_drewN | apply Kd.R_drew)); exact HO_8.out) (Kd.R_base ho0) hb); have n2_ := Aside0.mk (Kd.R_below (by (with_reducible repeat (first | apply Kd.R_alloc | apply Kd.R_drewN | apply Kd.R_drew)); exact HO_9.out) hb); have n3_ := Aside0.mk (Kd.R_lower (Kd.R_new' ho0 (Kd.R_lt (by (with_reducible repeat (first | apply Kd.R_alloc | apply Kd.R_drewN | apply Kd.R_drew)); exact HO_8.out))) (below_size (by repeat (first | (with_reducible first | exact HB.out | apply below_alloc | apply pw_below_drewN | apply below_drew1) | exact HB.out)))); have n4_ := Aside0.mk (below_step (by repeat (first | (with_reducible first | exact HB.out | apply below_alloc | apply pw_below_drewN | apply below_drew1) | exact HB.out)) hb); clear HO_6; clear HO_8; clear HO_9; clear HB; have HO_6 := n0_; have HO_8 := n1_; have HO_9 := n2_; have HO941 := n3_; have HB := n4_; clear n0_ n1_ n2_ n3_ n4_; (try clear hb); (try clear hb2); (try clear hk); (try clear hi); (try clear ho0); obtain ⟨Ao31, co31, eo31⟩ := Kd.R_slice HO941.out; subst eo31) | ((with_reducible refine gate_callee (f := 59) rfl ?_); refine goesL_ (some 48) rfl rfl Try.func59 (by kernel_rfl) rfl #[.slice Ao14 t931.length co14, .slice Ao31 t939.length co31] rfl (by (try simp only [List.map_toArray, List.map_cons, List.map_nil]); first | done | rfl | (simp only [List.length_drop, List.length_take]; rfl)) ?_; (with_reducible refine (laws_eqGroutS.calls kj8 _ _ t931 _ _ t939 true _ ?side1 ?side2 ?side3 ?side4 A26.out).mono ?_); (case side1 => repeat (first | exact (Kd.R_reads' HO_8.out).2.2 | (with_reducible refine Kd.C_alloc ?_ _) | (with_reducible refine Kd.C_drewN ?_ _) | (with_reducible refine Kd.C_drew ?_))); (case side2 => exact (Kd.R_reads' HO_8.out).2.1); (case side3 => repeat (first | exact (Kd.R_reads' HO941.out).2.2 | (with_reducible refine Kd.C_alloc ?_ _) | (with_reducible refine Kd.C_drewN ?_ _) | (with_reducible refine Kd.C_drew ?_))); (case side4 => exact (Kd.R_reads' HO941.out).2.1); rintro e w32 ⟨rfl, hb⟩; refine ⟨_, rfl, ?_⟩; have n0_ := Aside0.mk (Kd.R_below (by (with_reducible repeat (first | apply Kd.R_alloc | apply Kd.R_drewN | apply Kd.R_drew)); exact HO_6.out) hb); have n1_ := Aside0.mk (Kd.R_below (by (with_reducible repeat (first | apply Kd.R_alloc | apply Kd.R_drewN | apply Kd.R_drew)); exact HO_8.out) hb); have n2_ := Aside0.mk (Kd.R_below (by (with_reducible repeat (first | apply Kd.R_alloc | apply Kd.R_drewN | apply Kd.R_drew)); exact HO_9.out) hb); have n3_ := Aside0.mk (Kd.R_below (by (with_reducible repeat (first | apply Kd.R_alloc | apply Kd.R_drewN | apply Kd.R_drew)); exact HO941.out) hb); have n4_ := Aside0.mk (below_step (by repeat (first | (with_reducible first | exact HB.out | apply below_alloc | apply pw_below_drewN | apply below_drew1) | exact HB.out)) hb); clear HO_6; clear HO_8; clear HO_9; clear HO941; clear HB; have HO_6 := n0_; have HO_8 := n1_; have HO_9 := n2_; have HO941 := n3_; have HB := n4_; clear n0_ n1_ n2_ n3_ n4_; (try clear hb); (try clear hb2); (try clear hk); (try clear hi)) | ((with_reducible refine gate_callee (f := 60) rfl ?_); refine goesL_ (some 52) rfl rfl Try.func60 (by kernel_rfl) rfl #[.slice Ao14 t931.length co14, .int .i64 1] rfl (by (try simp only [List.map_toArray, List.map_cons, List.map_nil]); first | done | rfl | (simp only [List.length_drop, List.length_take]; rfl)) ?_; (with_reducible refine (laws_markGroutS.calls kj8 (fun k_ => some k_ = (.slice Ao14 t931.length co14 : Value).ownBlock) (.slice Ao14 t931.length co14) t931 1 t943 t944 w _ ?side1 ?side2 A28.out).mono ?_); (case side1 => repeat (first | (with_reducible first | exact HB.out | apply below_alloc | apply pw_below_drewN | apply below_drew1) | exact HB.out)); (case side2 => exact Kd.R_tight rfl HO_8.out); rintro e w33 ⟨rfl, hy0, hb, hkp⟩; refine ⟨_, rfl, ?_⟩; have n0_ := Aside0.mk (Kd.R_mono (ok' := fun k_ => some k_ ≠ (v936 : Value).ownBlock) (Kd.R_keptB ((Kd.R_apart' HO_6.out (Kd.R_typed HO_8.out) (by decide))) hkp (fun k_ hk_ hs_ => (hk_.2) hs_)) (fun k_ hk_ => hk_.1.1)); have n1_ := Aside0.mk (Kd.R_reok rfl hy0 (fun k_ e_ => HO_8.out.1 k_ e_)); have n2_ := Aside0.mk (Kd.R_mono (ok' := fun k_ => some k_ ≠ (v929 : Value).ownBlock) (Kd.R_keptB ((Kd.R_apart' HO_9.out (Kd.R_typed HO_8.out) (by decide))) hkp (fun k_ hk_ hs_ => (hk_.2) hs_)) (fun k_ hk_ => hk_.1.1)); have n3_ := Aside0.mk (Kd.R_mono (ok' := fun k_ => some k_ ≠ (.slice Ao14 t931.length co14 : Value).ownBlock) (Kd.R_keptB (HO941.out) hkp (fun k_ hk_ hs_ => (hk_.2) hs_)) (fun k_ hk_ => hk_.1.2)); have n4_ := Aside0.mk (hb); clear HO_6; clear HO_8; clear HO_9; clear HO941; clear HB; have HO_6 := n0_; have HO_8 := n1_; have HO_9 := n2_; have HO941 := n3_; have HB := n4_; clear n0_ n1_ n2_ n3_ n4_; (try clear hb); (try clear hkp); (try clear hy0)))
            (try simp only [Act.put, List.setIfInBounds_toArray, List.set_cons_zero, List.set_cons_succ])
            go_cut [65] (fun v65 wc => ∃ (kq : Nat) (x65_28 : Bool), v65 = .bool x65_28 ∧ Aside0 (laws_FnExactLossesOf.j1 kq l0 a1 t927 t928 t934 x65_28 = some r) ∧ Aside0 (kq ≤ kj8) ∧ Aside0 (Kd.R k107 107 wc w.heap.size (fun k_ => some k_ ≠ (v936 : Value).ownBlock) v929 t927) ∧ Aside0 (Kd.R k107 107 wc w.heap.size (fun k_ => some k_ ≠ (v929 : Value).ownBlock) v936 t934) ∧ Aside0 (Below w.heap.size w wc))
            case first =>
              have H := HC29.out
              clear HC29
              by_cases c34 : t943 < 0
              · rw [if_pos c34] at H
                have c34b0 : decide (t943 < 0) = true := decide_eq_true c34
                clear c34
                (first | rw [c34b0] | (simp only [i64_w, i32_w]; rw [c34b0]) | skip)
                have H' := Aside0.mk H
                clear H
                go_wp2
                go_meet
                case rel => exact ⟨_, (true), (by first | rfl | (simp; done) | (simp [*]; done) | (simp [Int.tdiv_eq_ediv_of_nonneg, *]; done)), H', ⟨by have := HJ8.out; first | omega | exact Nat.le_refl _⟩, ⟨by (with_reducible repeat (first | apply Kd.R_alloc | apply Kd.R_drewN | apply Kd.R_drew)); exact HO_6.out⟩, ⟨by (with_reducible repeat (first | apply Kd.R_alloc | apply Kd.R_drewN | apply Kd.R_drew)); exact HO_9.out⟩, ⟨by repeat (first | (with_reducible first | exact HB.out | apply below_alloc | apply pw_below_drewN | apply below_drew1) | exact HB.out)⟩⟩
              · rw [if_neg c34] at H
                have c34b0 : decide (t943 < 0) = false := decide_eq_false c34
                clear c34
                (first | rw [c34b0] | (simp only [i64_w, i32_w]; rw [c34b0]) | skip)
                replace H := Option.bind_eq_some_iff.mp H
                obtain ⟨t945, A350, H⟩ := H
                replace H : (if t945 = true then (laws_FnExactLossesOf.j1 kj8 l0 a1 t927 t928 t934 (t935 != t928)) else (laws_FnExactLossesOf.j1 kj8 l0 a1 t927 t928 t934 true)) = some r := H
                have A35 := Aside0.mk A350
                clear A350
                by_cases c36 : t945 = true
                · subst c36
                  have H1 : (laws_FnExactLossesOf.j1 kj8 l0 a1 t927 t928 t934 (t935 != t928)) = some r := by rw [if_pos rfl] at H; exact H
                  clear H
                  have H := H1
                  clear H1
                  have H' := Aside0.mk H
                  clear H
                  obtain ⟨Ao37, co37, eo37⟩ := Kd.R_slice HO_9.out
                  subst eo37
                  obtain ⟨Ao38, co38, eo38⟩ := Kd.R_slice HO_6.out
                  subst eo38
                  go_wp2_with (first | (go_at_call 35; (with_reducible refine (laws_eqLossS.calls kj8 _ _ t934 _ _ t927 true _ ?side1 ?side2 ?side3 ?side4 A35.out).mono ?_); (case side1 => repeat (first | exact (Kd.R_reads' HO_9.out).2.2 | (with_reducible refine Kd.C_alloc ?_ _) | (with_reducible refine Kd.C_drewN ?_ _) | (with_reducible refine Kd.C_drew ?_))); (case side2 => exact (Kd.R_reads' HO_9.out).2.1); (case side3 => repeat (first | exact (Kd.R_reads' HO_6.out).2.2 | (with_reducible refine Kd.C_alloc ?_ _) | (with_reducible refine Kd.C_drewN ?_ _) | (with_reducible refine Kd.C_drew ?_))); (case side4 => exact (Kd.R_reads' HO_6.out).2.1); rintro e w39 ⟨rfl, hb⟩; have n0_ := Aside0.mk (Kd.R_below (by (with_reducible repeat (first | apply Kd.R_alloc | apply Kd.R_drewN | apply Kd.R_drew)); exact HO_6.out) hb); have n1_ := Aside0.mk (Kd.R_below (by (with_reducible repeat (first | apply Kd.R_alloc | apply Kd.R_drewN | apply Kd.R_drew)); exact HO_8.out) hb); have n2_ := Aside0.mk (Kd.R_below (by (with_reducible repeat (first | apply Kd.R_alloc | apply Kd.R_drewN | apply Kd.R_drew)); exact HO_9.out) hb); have n3_ := Aside0.mk (Kd.R_below (by (with_reducible repeat (first | apply Kd.R_alloc | apply Kd.R_drewN | apply Kd.R_drew)); exact HO941.out) hb); have n4_ := Aside0.mk (below_step (by repeat (first | (with_reducible first | exact HB.out | apply below_alloc | apply pw_below_drewN | apply below_drew1) | exact HB.out)) hb); clear HO_6; clear HO_8; clear HO_9; clear HO941; clear HB; have HO_6 := n0_; have HO_8 := n1_; have HO_9 := n2_; have HO941 := n3_; have HB := n4_; clear n0_ n1_ n2_ n3_ n4_; (try clear hb); (try clear hb2); (try clear hk); (try clear hi)))
                  go_meet
                  case rel => exact ⟨_, ((t935 != t928)), (by first | rfl | (simp; done) | (simp [*]; done) | (simp [Int.tdiv_eq_ediv_of_nonneg, *]; done)), H', ⟨by have := HJ8.out; first | omega | exact Nat.le_refl _⟩, ⟨by (with_reducible repeat (first | apply Kd.R_alloc | apply Kd.R_drewN | apply Kd.R_drew)); exact HO_6.out⟩, ⟨by (with_reducible repeat (first | apply Kd.R_alloc | apply Kd.R_drewN | apply Kd.R_drew)); exact HO_9.out⟩, ⟨by repeat (first | (with_reducible first | exact HB.out | apply below_alloc | apply pw_below_drewN | apply below_drew1) | exact HB.out)⟩⟩
                · replace c36 := Bool.eq_false_iff.mpr c36
                  subst c36
                  have H1 : (laws_FnExactLossesOf.j1 kj8 l0 a1 t927 t928 t934 true) = some r := by rw [if_neg (show ¬ (false = true) by decide)] at H; exact H
                  clear H
                  have H := H1
                  clear H1
                  have H' := Aside0.mk H
                  clear H
                  obtain ⟨Ao40, co40, eo40⟩ := Kd.R_slice HO_9.out
                  subst eo40
                  obtain ⟨Ao41, co41, eo41⟩ := Kd.R_slice HO_6.out
                  subst eo41
                  go_wp2_with (first | (go_at_call 35; (with_reducible refine (laws_eqLossS.calls kj8 _ _ t934 _ _ t927 false _ ?side1 ?side2 ?side3 ?side4 A35.out).mono ?_); (case side1 => repeat (first | exact (Kd.R_reads' HO_9.out).2.2 | (with_reducible refine Kd.C_alloc ?_ _) | (with_reducible refine Kd.C_drewN ?_ _) | (with_reducible refine Kd.C_drew ?_))); (case side2 => exact (Kd.R_reads' HO_9.out).2.1); (case side3 => repeat (first | exact (Kd.R_reads' HO_6.out).2.2 | (with_reducible refine Kd.C_alloc ?_ _) | (with_reducible refine Kd.C_drewN ?_ _) | (with_reducible refine Kd.C_drew ?_))); (case side4 => exact (Kd.R_reads' HO_6.out).2.1); rintro e w42 ⟨rfl, hb⟩; have n0_ := Aside0.mk (Kd.R_below (by (with_reducible repeat (first | apply Kd.R_alloc | apply Kd.R_drewN | apply Kd.R_drew)); exact HO_6.out) hb); have n1_ := Aside0.mk (Kd.R_below (by (with_reducible repeat (first | apply Kd.R_alloc | apply Kd.R_drewN | apply Kd.R_drew)); exact HO_8.out) hb); have n2_ := Aside0.mk (Kd.R_below (by (with_reducible repeat (first | apply Kd.R_alloc | apply Kd.R_drewN | apply Kd.R_drew)); exact HO_9.out) hb); have n3_ := Aside0.mk (Kd.R_below (by (with_reducible repeat (first | apply Kd.R_alloc | apply Kd.R_drewN | apply Kd.R_drew)); exact HO941.out) hb); have n4_ := Aside0.mk (below_step (by repeat (first | (with_reducible first | exact HB.out | apply below_alloc | apply pw_below_drewN | apply below_drew1) | exact HB.out)) hb); clear HO_6; clear HO_8; clear HO_9; clear HO941; clear HB; have HO_6 := n0_; have HO_8 := n1_; have HO_9 := n2_; have HO941 := n3_; have HB := n4_; clear n0_ n1_ n2_ n3_ n4_; (try clear hb); (try clear hb2); (try clear hk); (try clear hi)))
                  go_meet
                  case rel => exact ⟨_, (true), (by first | rfl | (simp; done) | (simp [*]; done) | (simp [Int.tdiv_eq_ediv_of_nonneg, *]; done)), H', ⟨by have := HJ8.out; first | omega | exact Nat.le_refl _⟩, ⟨by (with_reducible repeat (first | apply Kd.R_alloc | apply Kd.R_drewN | apply Kd.R_drew)); exact HO_6.out⟩, ⟨by (with_reducible repeat (first | apply Kd.R_alloc | apply Kd.R_drewN | apply Kd.R_drew)); exact HO_9.out⟩, ⟨by repeat (first | (with_reducible first | exact HB.out | apply below_alloc | apply pw_below_drewN | apply below_drew1) | exact HB.out)⟩⟩
            case rest =>
              clear HC29
              try clear c1
              try clear c2
              try clear p2
              try clear c3
              try clear c4
              try clear c4b0
              try clear c5
              try clear c6
              try clear c10
              try clear c17
              try clear c24
              try clear c27
              try clear c34
              try clear c34b0
              try clear c35
              try clear c36
              try clear p2
              obtain ⟨kq, x65_28, rfl, HA, HJ28, HO_6, HO_9, HB⟩ := hcut
              cases kq with
              | zero => exact absurd HA.out (by simp [laws_FnExactLossesOf.j1])
              | succ kj28 =>
                have H := HA.out
                clear HA
                simp only [laws_FnExactLossesOf.j1] at H
                by_cases c43 : x65_28 = true
                · subst c43
                  have H1 : (some false) = some r := by rw [if_pos rfl] at H; exact H
                  clear H
                  have H := H1
                  clear H1
                  obtain rfl := Option.some.inj H
                  go_wp2
                  go_ret
                  exact ⟨by first | rfl | (simp [errW_none, errW_some] <;> rfl) | (simp [*, errW_none, errW_some] <;> rfl) | (simp [Int.tdiv_eq_ediv_of_nonneg, *]; done), by repeat (first | (with_reducible first | exact HB.out | apply below_alloc | apply pw_below_drewN | apply below_drew1) | exact HB.out)⟩
                · replace c43 := Bool.eq_false_iff.mpr c43
                  subst c43
                  have H1 : ((laws_markLossS.f kj28 t934 1).bind fun bt946 => ((laws_heldLossS.f kj28 bt946.2 1).bind fun t948 => (if t948 < 0 then (some false) else (if t948 = bt946.1 then ((laws_toGroutS.f kj28 l0).bind fun t949 => ((impl_LossesOf.f kj28 t949 a1).bind fun bt952 => ((laws_eqLossS.f kj28 bt952.1 t927).bind fun t956 => (if t956 = true then (laws_FnExactLossesOf.j2 kj28 bt946.2 bt946.1 (bt952.2 != t928)) else (laws_FnExactLossesOf.j2 kj28 bt946.2 bt946.1 true))))) else (some false))))) = some r := by rw [if_neg (show ¬ (false = true) by decide)] at H; exact H
                  clear H
                  have H := H1
                  clear H1
                  replace H := Option.bind_eq_some_iff.mp H
                  obtain ⟨⟨t946, t947⟩, A440, H⟩ := H
                  replace H : ((laws_heldLossS.f kj28 t947 1).bind fun t948 => (if t948 < 0 then (some false) else (if t948 = t946 then ((laws_toGroutS.f kj28 l0).bind fun t949 => ((impl_LossesOf.f kj28 t949 a1).bind fun bt952 => ((laws_eqLossS.f kj28 bt952.1 t927).bind fun t956 => (if t956 = true then (laws_FnExactLossesOf.j2 kj28 t947 t946 (bt952.2 != t928)) else (laws_FnExactLossesOf.j2 kj28 t947 t946 true))))) else (some false)))) = some r := H
                  have A44 := Aside0.mk A440
                  clear A440
                  replace H := Option.bind_eq_some_iff.mp H
                  obtain ⟨t948, A450, H⟩ := H
                  replace H : (if t948 < 0 then (some false) else (if t948 = t946 then ((laws_toGroutS.f kj28 l0).bind fun t949 => ((impl_LossesOf.f kj28 t949 a1).bind fun bt952 => ((laws_eqLossS.f kj28 bt952.1 t927).bind fun t956 => (if t956 = true then (laws_FnExactLossesOf.j2 kj28 t947 t946 (bt952.2 != t928)) else (laws_FnExactLossesOf.j2 kj28 t947 t946 true))))) else (some false))) = some r := H
                  have A45 := Aside0.mk A450
                  clear A450
                  by_cases c46 : t948 < 0
                  · rw [if_pos c46] at H
                    have c46b0 : decide (t948 < 0) = true := decide_eq_true c46
                    clear c46
                    obtain rfl := Option.some.inj H
                    obtain ⟨Ao47, co47, eo47⟩ := Kd.R_slice HO_9.out
                    subst eo47
                    go_wp2_with (first | ((with_reducible refine gate_callee (f := 36) rfl ?_); refine goesL_ (some 68) rfl rfl Try.func36 (by kernel_rfl) rfl #[.slice Ao47 t934.length co47, .int .i64 1] rfl (by (try simp only [List.map_toArray, List.map_cons, List.map_nil]); first | done | rfl | (simp only [List.length_drop, List.length_take]; rfl)) ?_; (with_reducible refine (laws_markLossS.calls kj28 (fun k_ => some k_ = (.slice Ao47 t934.length co47 : Value).ownBlock) (.slice Ao47 t934.length co47) t934 1 t946 t947 w _ ?side1 ?side2 A44.out).mono ?_); (case side1 => repeat (first | (with_reducible first | exact HB.out | apply below_alloc | apply pw_below_drewN | apply below_drew1) | exact HB.out)); (case side2 => exact Kd.R_tight rfl HO_9.out); rintro e w48 ⟨rfl, hy0, hb, hkp⟩; refine ⟨_, rfl, ?_⟩; have n0_ := Aside0.mk (Kd.R_mono (ok' := fun k_ => some k_ ≠ (.slice Ao47 t934.length co47 : Value).ownBlock) (Kd.R_keptB (HO_6.out) hkp (fun k_ hk_ hs_ => (hk_) hs_)) (fun k_ hk_ => hk_.1)); have n1_ := Aside0.mk (Kd.R_reok rfl hy0 (fun k_ e_ => HO_9.out.1 k_ e_)); have n2_ := Aside0.mk (hb); clear HO_6; clear HO_9; clear HB; have HO_6 := n0_; have HO_9 := n1_; have HB := n2_; clear n0_ n1_ n2_; (try clear hb); (try clear hkp); (try clear hy0)) | ((with_reducible refine gate_callee (f := 61) rfl ?_); refine goesL_ (some 71) rfl rfl Try.func61 (by kernel_rfl) rfl #[.slice Ao47 t947.length co47, .int .i64 1] rfl (by (try simp only [List.map_toArray, List.map_cons, List.map_nil]); first | done | (rw [show t947.length = t934.length from (Kd.R_reads' HO_9.out).1.symm] <;> rfl) | rfl | (simp only [List.length_drop, List.length_take]; rfl)) ?_; (with_reducible refine (laws_heldLossS.calls kj28 _ _ t947 1 t948 _ ?side1 ?side2 A45.out).mono ?_); (case side1 => repeat (first | exact (Kd.R_reads' HO_9.out).2.2 | (with_reducible refine Kd.C_alloc ?_ _) | (with_reducible refine Kd.C_drewN ?_ _) | (with_reducible refine Kd.C_drew ?_))); (case side2 => rw [show t947.length = t934.length from (Kd.R_reads' HO_9.out).1.symm]; exact (Kd.R_reads' HO_9.out).2.1); rintro e w' ⟨rfl, ⟨nd, rfl⟩⟩; refine ⟨_, rfl, ?_⟩))
                    go_ret
                    exact ⟨by first | rfl | (simp [errW_none, errW_some] <;> rfl) | (simp [*, errW_none, errW_some] <;> rfl) | (simp [Int.tdiv_eq_ediv_of_nonneg, *]; done), by repeat (first | (with_reducible first | exact HB.out | apply below_alloc | apply pw_below_drewN | apply below_drew1) | exact HB.out)⟩
                  · rw [if_neg c46] at H
                    have c46b0 : decide (t948 < 0) = false := decide_eq_false c46
                    clear c46
                    by_cases c49 : t948 = t946
                    · rw [if_pos c49] at H
                      have c49b0 : (t948 == t946) = true := beq_iff_eq.mpr c49
                      have c49b1 : (t948 != t946) = false := bne_eq_false_iff_eq.mpr c49
                      clear c49
                      replace H := Option.bind_eq_some_iff.mp H
                      obtain ⟨t949, A500, H⟩ := H
                      replace H : ((impl_LossesOf.f kj28 t949 a1).bind fun bt952 => ((laws_eqLossS.f kj28 bt952.1 t927).bind fun t956 => (if t956 = true then (laws_FnExactLossesOf.j2 kj28 t947 t946 (bt952.2 != t928)) else (laws_FnExactLossesOf.j2 kj28 t947 t946 true)))) = some r := H
                      have A50 := Aside0.mk A500
                      clear A500
                      replace H := Option.bind_eq_some_iff.mp H
                      obtain ⟨⟨t952, t953⟩, A510, H⟩ := H
                      replace H : ((laws_eqLossS.f kj28 t952 t927).bind fun t956 => (if t956 = true then (laws_FnExactLossesOf.j2 kj28 t947 t946 (t953 != t928)) else (laws_FnExactLossesOf.j2 kj28 t947 t946 true))) = some r := H
                      have A51 := Aside0.mk A510
                      clear A510
                      have HC52 := Aside0.mk H
                      clear H
                      obtain ⟨Ao53, co53, eo53⟩ := Kd.R_slice HO_9.out
                      subst eo53
                      go_upto_region 25 with (first | ((with_reducible refine gate_callee (f := 36) rfl ?_); refine goesL_ (some 68) rfl rfl Try.func36 (by kernel_rfl) rfl #[.slice Ao53 t934.length co53, .int .i64 1] rfl (by (try simp only [List.map_toArray, List.map_cons, List.map_nil]); first | done | rfl | (simp only [List.length_drop, List.length_take]; rfl)) ?_; (with_reducible refine (laws_markLossS.calls kj28 (fun k_ => some k_ = (.slice Ao53 t934.length co53 : Value).ownBlock) (.slice Ao53 t934.length co53) t934 1 t946 t947 w _ ?side1 ?side2 A44.out).mono ?_); (case side1 => repeat (first | (with_reducible first | exact HB.out | apply below_alloc | apply pw_below_drewN | apply below_drew1) | exact HB.out)); (case side2 => exact Kd.R_tight rfl HO_9.out); rintro e w54 ⟨rfl, hy0, hb, hkp⟩; refine ⟨_, rfl, ?_⟩; have n0_ := Aside0.mk (Kd.R_mono (ok' := fun k_ => some k_ ≠ (.slice Ao53 t934.length co53 : Value).ownBlock) (Kd.R_keptB (HO_6.out) hkp (fun k_ hk_ hs_ => (hk_) hs_)) (fun k_ hk_ => hk_.1)); have n1_ := Aside0.mk (Kd.R_reok rfl hy0 (fun k_ e_ => HO_9.out.1 k_ e_)); have n2_ := Aside0.mk (hb); clear HO_6; clear HO_9; clear HB; have HO_6 := n0_; have HO_9 := n1_; have HB := n2_; clear n0_ n1_ n2_; (try clear hb); (try clear hkp); (try clear hy0)) | ((with_reducible refine gate_callee (f := 61) rfl ?_); refine goesL_ (some 71) rfl rfl Try.func61 (by kernel_rfl) rfl #[.slice Ao53 t947.length co53, .int .i64 1] rfl (by (try simp only [List.map_toArray, List.map_cons, List.map_nil]); first | done | (rw [show t947.length = t934.length from (Kd.R_reads' HO_9.out).1.symm] <;> rfl) | rfl | (simp only [List.length_drop, List.length_take]; rfl)) ?_; (with_reducible refine (laws_heldLossS.calls kj28 _ _ t947 1 t948 _ ?side1 ?side2 A45.out).mono ?_); (case side1 => repeat (first | exact (Kd.R_reads' HO_9.out).2.2 | (with_reducible refine Kd.C_alloc ?_ _) | (with_reducible refine Kd.C_drewN ?_ _) | (with_reducible refine Kd.C_drew ?_))); (case side2 => rw [show t947.length = t934.length from (Kd.R_reads' HO_9.out).1.symm]; exact (Kd.R_reads' HO_9.out).2.1); rintro e w' ⟨rfl, ⟨nd, rfl⟩⟩; refine ⟨_, rfl, ?_⟩) | ((with_reducible refine gate_callee (f := 57) rfl ?_); refine goesL_ (some 79) rfl rfl Try.func57 (by kernel_rfl) rfl #[.slice A0 l0.length c0] rfl (by (try simp only [List.map_toArray, List.map_cons, List.map_nil]); first | done | rfl | (simp only [List.length_drop, List.length_take]; rfl)) ?_; (with_reducible refine (laws_toGroutS.calls kj28 _ _ l0 t949 _ ?side1 ?side2 A50.out).mono ?_); (case side1 => repeat (first | exact (Kd.C_below HR0.out (by repeat (first | (with_reducible first | exact HB.out | apply below_alloc | apply pw_below_drewN | apply below_drew1) | exact HB.out))) | (with_reducible refine Kd.C_alloc ?_ _) | (with_reducible refine Kd.C_drewN ?_ _) | (with_reducible refine Kd.C_drew ?_))); (case side2 => exact HC0.out); rintro e w55 ⟨v950, rfl, ho0, hb⟩; refine ⟨_, rfl, ?_⟩; have n0_ := Aside0.mk (Kd.R_below (by (with_reducible repeat (first | apply Kd.R_alloc | apply Kd.R_drewN | apply Kd.R_drew)); exact HO_6.out) hb); have n1_ := Aside0.mk (Kd.R_below (by (with_reducible repeat (first | apply Kd.R_alloc | apply Kd.R_drewN | apply Kd.R_drew)); exact HO_9.out) hb); have n2_ := Aside0.mk (Kd.R_lower ho0 (below_size (by repeat (first | (with_reducible first | exact HB.out | apply below_alloc | apply pw_below_drewN | apply below_drew1) | exact HB.out)))); have n3_ := Aside0.mk (below_step (by repeat (first | (with_reducible first | exact HB.out | apply below_alloc | apply pw_below_drewN | apply below_drew1) | exact HB.out)) hb); clear HO_6; clear HO_9; clear HB; have HO_6 := n0_; have HO_9 := n1_; have HO951 := n2_; have HB := n3_; clear n0_ n1_ n2_ n3_; (try clear hb); (try clear hb2); (try clear hk); (try clear hi); (try clear ho0); obtain ⟨Ao56, co56, eo56⟩ := Kd.R_slice HO951.out; subst eo56) | ((with_reducible refine gate_callee (f := 58) rfl ?_); refine goesL_ (some 81) rfl rfl Try.func58 (by kernel_rfl) rfl #[.slice Ao56 t949.length co56, .int .i64 a1] rfl (by (try simp only [List.map_toArray, List.map_cons, List.map_nil]); first | done | rfl | (simp only [List.length_drop, List.length_take]; rfl)) ?_; (with_reducible refine (impl_LossesOf.calls kj28 _ _ t949 a1 t952 t953 _ ?side1 ?side2 A51.out).mono ?_); (case side1 => repeat (first | exact (Kd.R_reads' HO951.out).2.2 | (with_reducible refine Kd.C_alloc ?_ _) | (with_reducible refine Kd.C_drewN ?_ _) | (with_reducible refine Kd.C_drew ?_))); (case side2 => exact (Kd.R_reads' HO951.out).2.1); rintro e w57 ⟨v954, rfl, ho0, hb⟩; refine ⟨_, rfl, ?_⟩; have n0_ := Aside0.mk (Kd.R_elder' (by (with_reducible repeat (first | apply Kd.R_alloc | apply Kd.R_drewN | apply Kd.R_drew)); exact HO_6.out) (Kd.R_base ho0) hb); have n1_ := Aside0.mk (Kd.R_elder' (by (with_reducible repeat (first | apply Kd.R_alloc | apply Kd.R_drewN | apply Kd.R_drew)); exact HO_9.out) (Kd.R_base ho0) hb); have n2_ := Aside0.mk (Kd.R_below (by (with_reducible repeat (first | apply Kd.R_alloc | apply Kd.R_drewN | apply Kd.R_drew)); exact HO951.out) hb); have n3_ := Aside0.mk (Kd.R_lower (Kd.R_new' (Kd.R_new' ho0 (Kd.R_lt (by (with_reducible repeat (first | apply Kd.R_alloc | apply Kd.R_drewN | apply Kd.R_drew)); exact HO_6.out))) (Kd.R_lt (by (with_reducible repeat (first | apply Kd.R_alloc | apply Kd.R_drewN | apply Kd.R_drew)); exact HO_9.out))) (below_size (by repeat (first | (with_reducible first | exact HB.out | apply below_alloc | apply pw_below_drewN | apply below_drew1) | exact HB.out)))); have n4_ := Aside0.mk (below_step (by repeat (first | (with_reducible first | exact HB.out | apply below_alloc | apply pw_below_drewN | apply below_drew1) | exact HB.out)) hb); clear HO_6; clear HO_9; clear HO951; clear HB; have HO_6 := n0_; have HO_9 := n1_; have HO951 := n2_; have HO955 := n3_; have HB := n4_; clear n0_ n1_ n2_ n3_ n4_; (try clear hb); (try clear hb2); (try clear hk); (try clear hi); (try clear ho0)))
                      (try simp only [Act.put, List.setIfInBounds_toArray, List.set_cons_zero, List.set_cons_succ])
                      go_cut [92] (fun v92 wc => ∃ (kq : Nat) (x92_51 : Bool), v92 = .bool x92_51 ∧ Aside0 (laws_FnExactLossesOf.j2 kq t947 t946 x92_51 = some r) ∧ Aside0 (kq ≤ kj28) ∧ Aside0 (Kd.R k107 107 wc w.heap.size (fun _ => True) (.slice Ao53 t934.length co53) t947) ∧ Aside0 (Below w.heap.size w wc))
                      case first =>
                        have H := HC52.out
                        clear HC52
                        replace H := Option.bind_eq_some_iff.mp H
                        obtain ⟨t956, A580, H⟩ := H
                        replace H : (if t956 = true then (laws_FnExactLossesOf.j2 kj28 t947 t946 (t953 != t928)) else (laws_FnExactLossesOf.j2 kj28 t947 t946 true)) = some r := H
                        have A58 := Aside0.mk A580
                        clear A580
                        by_cases c59 : t956 = true
                        · subst c59
                          have H1 : (laws_FnExactLossesOf.j2 kj28 t947 t946 (t953 != t928)) = some r := by rw [if_pos rfl] at H; exact H
                          clear H
                          have H := H1
                          clear H1
                          have H' := Aside0.mk H
                          clear H
                          obtain ⟨Ao60, co60, eo60⟩ := Kd.R_slice HO955.out
                          subst eo60
                          obtain ⟨Ao61, co61, eo61⟩ := Kd.R_slice HO_6.out
                          subst eo61
                          go_wp2_with (first | ((with_reducible refine gate_callee (f := 35) rfl ?_); refine goesL_ (some 86) rfl rfl Try.func35 (by kernel_rfl) rfl #[.slice Ao60 t952.length co60, .slice Ao61 t927.length co61] rfl (by (try simp only [List.map_toArray, List.map_cons, List.map_nil]); first | done | rfl | (simp only [List.length_drop, List.length_take]; rfl)) ?_; (with_reducible refine (laws_eqLossS.calls kj28 _ _ t952 _ _ t927 true _ ?side1 ?side2 ?side3 ?side4 A58.out).mono ?_); (case side1 => repeat (first | exact (Kd.R_reads' HO955.out).2.2 | (with_reducible refine Kd.C_alloc ?_ _) | (with_reducible refine Kd.C_drewN ?_ _) | (with_reducible refine Kd.C_drew ?_))); (case side2 => exact (Kd.R_reads' HO955.out).2.1); (case side3 => repeat (first | exact (Kd.R_reads' HO_6.out).2.2 | (with_reducible refine Kd.C_alloc ?_ _) | (with_reducible refine Kd.C_drewN ?_ _) | (with_reducible refine Kd.C_drew ?_))); (case side4 => exact (Kd.R_reads' HO_6.out).2.1); rintro e w62 ⟨rfl, hb⟩; refine ⟨_, rfl, ?_⟩; have n0_ := Aside0.mk (Kd.R_below (by (with_reducible repeat (first | apply Kd.R_alloc | apply Kd.R_drewN | apply Kd.R_drew)); exact HO_6.out) hb); have n1_ := Aside0.mk (Kd.R_below (by (with_reducible repeat (first | apply Kd.R_alloc | apply Kd.R_drewN | apply Kd.R_drew)); exact HO_9.out) hb); have n2_ := Aside0.mk (Kd.R_below (by (with_reducible repeat (first | apply Kd.R_alloc | apply Kd.R_drewN | apply Kd.R_drew)); exact HO951.out) hb); have n3_ := Aside0.mk (Kd.R_below (by (with_reducible repeat (first | apply Kd.R_alloc | apply Kd.R_drewN | apply Kd.R_drew)); exact HO955.out) hb); have n4_ := Aside0.mk (below_step (by repeat (first | (with_reducible first | exact HB.out | apply below_alloc | apply pw_below_drewN | apply below_drew1) | exact HB.out)) hb); clear HO_6; clear HO_9; clear HO951; clear HO955; clear HB; have HO_6 := n0_; have HO_9 := n1_; have HO951 := n2_; have HO955 := n3_; have HB := n4_; clear n0_ n1_ n2_ n3_ n4_; (try clear hb); (try clear hb2); (try clear hk); (try clear hi)))
                          go_meet
                          case rel => exact ⟨_, ((t953 != t928)), (by first | rfl | (simp; done) | (simp [*]; done) | (simp [Int.tdiv_eq_ediv_of_nonneg, *]; done)), H', ⟨by have := HJ8.out; have := HJ28.out; first | omega | exact Nat.le_refl _⟩, ⟨by (with_reducible repeat (first | apply Kd.R_alloc | apply Kd.R_drewN | apply Kd.R_drew)); exact Kd.R_mono HO_9.out (fun _ hk => trivial)⟩, ⟨by repeat (first | (with_reducible first | exact HB.out | apply below_alloc | apply pw_below_drewN | apply below_drew1) | exact HB.out)⟩⟩
                        · replace c59 := Bool.eq_false_iff.mpr c59
                          subst c59
                          have H1 : (laws_FnExactLossesOf.j2 kj28 t947 t946 true) = some r := by rw [if_neg (show ¬ (false = true) by decide)] at H; exact H
                          clear H
                          have H := H1
                          clear H1
                          have H' := Aside0.mk H
                          clear H
                          obtain ⟨Ao63, co63, eo63⟩ := Kd.R_slice HO955.out
                          subst eo63
                          obtain ⟨Ao64, co64, eo64⟩ := Kd.R_slice HO_6.out
                          subst eo64
                          go_wp2_with (first | ((with_reducible refine gate_callee (f := 35) rfl ?_); refine goesL_ (some 86) rfl rfl Try.func35 (by kernel_rfl) rfl #[.slice Ao63 t952.length co63, .slice Ao64 t927.length co64] rfl (by (try simp only [List.map_toArray, List.map_cons, List.map_nil]); first | done | rfl | (simp only [List.length_drop, List.length_take]; rfl)) ?_; (with_reducible refine (laws_eqLossS.calls kj28 _ _ t952 _ _ t927 false _ ?side1 ?side2 ?side3 ?side4 A58.out).mono ?_); (case side1 => repeat (first | exact (Kd.R_reads' HO955.out).2.2 | (with_reducible refine Kd.C_alloc ?_ _) | (with_reducible refine Kd.C_drewN ?_ _) | (with_reducible refine Kd.C_drew ?_))); (case side2 => exact (Kd.R_reads' HO955.out).2.1); (case side3 => repeat (first | exact (Kd.R_reads' HO_6.out).2.2 | (with_reducible refine Kd.C_alloc ?_ _) | (with_reducible refine Kd.C_drewN ?_ _) | (with_reducible refine Kd.C_drew ?_))); (case side4 => exact (Kd.R_reads' HO_6.out).2.1); rintro e w65 ⟨rfl, hb⟩; refine ⟨_, rfl, ?_⟩; have n0_ := Aside0.mk (Kd.R_below (by (with_reducible repeat (first | apply Kd.R_alloc | apply Kd.R_drewN | apply Kd.R_drew)); exact HO_6.out) hb); have n1_ := Aside0.mk (Kd.R_below (by (with_reducible repeat (first | apply Kd.R_alloc | apply Kd.R_drewN | apply Kd.R_drew)); exact HO_9.out) hb); have n2_ := Aside0.mk (Kd.R_below (by (with_reducible repeat (first | apply Kd.R_alloc | apply Kd.R_drewN | apply Kd.R_drew)); exact HO951.out) hb); have n3_ := Aside0.mk (Kd.R_below (by (with_reducible repeat (first | apply Kd.R_alloc | apply Kd.R_drewN | apply Kd.R_drew)); exact HO955.out) hb); have n4_ := Aside0.mk (below_step (by repeat (first | (with_reducible first | exact HB.out | apply below_alloc | apply pw_below_drewN | apply below_drew1) | exact HB.out)) hb); clear HO_6; clear HO_9; clear HO951; clear HO955; clear HB; have HO_6 := n0_; have HO_9 := n1_; have HO951 := n2_; have HO955 := n3_; have HB := n4_; clear n0_ n1_ n2_ n3_ n4_; (try clear hb); (try clear hb2); (try clear hk); (try clear hi)))
                          go_meet
                          case rel => exact ⟨_, (true), (by first | rfl | (simp; done) | (simp [*]; done) | (simp [Int.tdiv_eq_ediv_of_nonneg, *]; done)), H', ⟨by have := HJ8.out; have := HJ28.out; first | omega | exact Nat.le_refl _⟩, ⟨by (with_reducible repeat (first | apply Kd.R_alloc | apply Kd.R_drewN | apply Kd.R_drew)); exact Kd.R_mono HO_9.out (fun _ hk => trivial)⟩, ⟨by repeat (first | (with_reducible first | exact HB.out | apply below_alloc | apply pw_below_drewN | apply below_drew1) | exact HB.out)⟩⟩
                      case rest =>
                        clear HC52
                        try clear c1
                        try clear c2
                        try clear p2
                        try clear c3
                        try clear c4
                        try clear c4b0
                        try clear c5
                        try clear c6
                        try clear c10
                        try clear c17
                        try clear c24
                        try clear c27
                        try clear c34
                        try clear c34b0
                        try clear c35
                        try clear c36
                        try clear c43
                        try clear c46
                        try clear c46b0
                        try clear c49
                        try clear c49b0
                        try clear c49b1
                        try clear c55
                        try clear c56
                        try clear c57
                        try clear c58
                        try clear c59
                        try clear c60
                        try clear c61
                        try clear p2
                        obtain ⟨kq, x92_51, rfl, HA, HJ51, HO_9, HB⟩ := hcut
                        have hl9_51 := (Kd.R_reads' HO_9.out).1
                        rw [hl9_51] at HO_9
                        (try simp only [hl9_51])
                        cases kq with
                        | zero => exact absurd HA.out (by simp [laws_FnExactLossesOf.j2])
                        | succ kj51 =>
                          have H := HA.out
                          clear HA
                          simp only [laws_FnExactLossesOf.j2] at H
                          by_cases c66 : x92_51 = true
                          · subst c66
                            have H1 : (some false) = some r := by rw [if_pos rfl] at H; exact H
                            clear H
                            have H := H1
                            clear H1
                            obtain rfl := Option.some.inj H
                            go_wp2
                            go_ret
                            exact ⟨by first | rfl | (simp [errW_none, errW_some] <;> rfl) | (simp [*, errW_none, errW_some] <;> rfl) | (simp [Int.tdiv_eq_ediv_of_nonneg, *]; done), by repeat (first | (with_reducible first | exact HB.out | apply below_alloc | apply pw_below_drewN | apply below_drew1) | exact HB.out)⟩
                          · replace c66 := Bool.eq_false_iff.mpr c66
                            subst c66
                            have H1 : ((laws_heldLossS.f kj51 t947 1).bind fun t957 => (if t957 < 0 then (some false) else (if t957 = t946 then (some true) else (some false)))) = some r := by rw [if_neg (show ¬ (false = true) by decide)] at H; exact H
                            clear H
                            have H := H1
                            clear H1
                            replace H := Option.bind_eq_some_iff.mp H
                            obtain ⟨t957, A670, H⟩ := H
                            replace H : (if t957 < 0 then (some false) else (if t957 = t946 then (some true) else (some false))) = some r := H
                            have A67 := Aside0.mk A670
                            clear A670
                            by_cases c68 : t957 < 0
                            · rw [if_pos c68] at H
                              have c68b0 : decide (t957 < 0) = true := decide_eq_true c68
                              clear c68
                              obtain rfl := Option.some.inj H
                              go_wp2_with (first | ((with_reducible refine gate_callee (f := 61) rfl ?_); refine goesL_ (some 95) rfl rfl Try.func61 (by kernel_rfl) rfl #[.slice Ao53 t947.length co53, .int .i64 1] rfl (by (try simp only [List.map_toArray, List.map_cons, List.map_nil]); first | done | rfl | (simp only [List.length_drop, List.length_take]; rfl)) ?_; (with_reducible refine (laws_heldLossS.calls kj51 _ _ t947 1 t957 _ ?side1 ?side2 A67.out).mono ?_); (case side1 => repeat (first | exact (Kd.R_reads' HO_9.out).2.2 | (with_reducible refine Kd.C_alloc ?_ _) | (with_reducible refine Kd.C_drewN ?_ _) | (with_reducible refine Kd.C_drew ?_))); (case side2 => exact (Kd.R_reads' HO_9.out).2.1); rintro e w' ⟨rfl, ⟨nd, rfl⟩⟩; refine ⟨_, rfl, ?_⟩))
                              go_ret
                              exact ⟨by first | rfl | (simp [errW_none, errW_some] <;> rfl) | (simp [*, errW_none, errW_some] <;> rfl) | (simp [Int.tdiv_eq_ediv_of_nonneg, *]; done), by repeat (first | (with_reducible first | exact HB.out | apply below_alloc | apply pw_below_drewN | apply below_drew1) | exact HB.out)⟩
                            · rw [if_neg c68] at H
                              have c68b0 : decide (t957 < 0) = false := decide_eq_false c68
                              clear c68
                              by_cases c69 : t957 = t946
                              · rw [if_pos c69] at H
                                have c69b0 : (t957 == t946) = true := beq_iff_eq.mpr c69
                                have c69b1 : (t957 != t946) = false := bne_eq_false_iff_eq.mpr c69
                                clear c69
                                obtain rfl := Option.some.inj H
                                go_wp2_with (first | ((with_reducible refine gate_callee (f := 61) rfl ?_); refine goesL_ (some 95) rfl rfl Try.func61 (by kernel_rfl) rfl #[.slice Ao53 t947.length co53, .int .i64 1] rfl (by (try simp only [List.map_toArray, List.map_cons, List.map_nil]); first | done | rfl | (simp only [List.length_drop, List.length_take]; rfl)) ?_; (with_reducible refine (laws_heldLossS.calls kj51 _ _ t947 1 t957 _ ?side1 ?side2 A67.out).mono ?_); (case side1 => repeat (first | exact (Kd.R_reads' HO_9.out).2.2 | (with_reducible refine Kd.C_alloc ?_ _) | (with_reducible refine Kd.C_drewN ?_ _) | (with_reducible refine Kd.C_drew ?_))); (case side2 => exact (Kd.R_reads' HO_9.out).2.1); rintro e w' ⟨rfl, ⟨nd, rfl⟩⟩; refine ⟨_, rfl, ?_⟩))
                                go_ret
                                exact ⟨by first | rfl | (simp [errW_none, errW_some] <;> rfl) | (simp [*, errW_none, errW_some] <;> rfl) | (simp [Int.tdiv_eq_ediv_of_nonneg, *]; done), by repeat (first | (with_reducible first | exact HB.out | apply below_alloc | apply pw_below_drewN | apply below_drew1) | exact HB.out)⟩
                              · rw [if_neg c69] at H
                                have c69b0 : (t957 == t946) = false := beq_eq_false_iff_ne.mpr c69
                                have c69b1 : (t957 != t946) = true := bne_iff_ne.mpr c69
                                obtain rfl := Option.some.inj H
                                go_wp2_with (first | ((with_reducible refine gate_callee (f := 61) rfl ?_); refine goesL_ (some 95) rfl rfl Try.func61 (by kernel_rfl) rfl #[.slice Ao53 t947.length co53, .int .i64 1] rfl (by (try simp only [List.map_toArray, List.map_cons, List.map_nil]); first | done | rfl | (simp only [List.length_drop, List.length_take]; rfl)) ?_; (with_reducible refine (laws_heldLossS.calls kj51 _ _ t947 1 t957 _ ?side1 ?side2 A67.out).mono ?_); (case side1 => repeat (first | exact (Kd.R_reads' HO_9.out).2.2 | (with_reducible refine Kd.C_alloc ?_ _) | (with_reducible refine Kd.C_drewN ?_ _) | (with_reducible refine Kd.C_drew ?_))); (case side2 => exact (Kd.R_reads' HO_9.out).2.1); rintro e w' ⟨rfl, ⟨nd, rfl⟩⟩; refine ⟨_, rfl, ?_⟩))
                                go_ret
                                exact ⟨by first | rfl | (simp [errW_none, errW_some] <;> rfl) | (simp [*, errW_none, errW_some] <;> rfl) | (simp [Int.tdiv_eq_ediv_of_nonneg, *]; done), by repeat (first | (with_reducible first | exact HB.out | apply below_alloc | apply pw_below_drewN | apply below_drew1) | exact HB.out)⟩
                    · rw [if_neg c49] at H
                      have c49b0 : (t948 == t946) = false := beq_eq_false_iff_ne.mpr c49
                      have c49b1 : (t948 != t946) = true := bne_iff_ne.mpr c49
                      obtain rfl := Option.some.inj H
                      obtain ⟨Ao70, co70, eo70⟩ := Kd.R_slice HO_9.out
                      subst eo70
                      go_wp2_with (first | ((with_reducible refine gate_callee (f := 36) rfl ?_); refine goesL_ (some 68) rfl rfl Try.func36 (by kernel_rfl) rfl #[.slice Ao70 t934.length co70, .int .i64 1] rfl (by (try simp only [List.map_toArray, List.map_cons, List.map_nil]); first | done | rfl | (simp only [List.length_drop, List.length_take]; rfl)) ?_; (with_reducible refine (laws_markLossS.calls kj28 (fun k_ => some k_ = (.slice Ao70 t934.length co70 : Value).ownBlock) (.slice Ao70 t934.length co70) t934 1 t946 t947 w _ ?side1 ?side2 A44.out).mono ?_); (case side1 => repeat (first | (with_reducible first | exact HB.out | apply below_alloc | apply pw_below_drewN | apply below_drew1) | exact HB.out)); (case side2 => exact Kd.R_tight rfl HO_9.out); rintro e w71 ⟨rfl, hy0, hb, hkp⟩; refine ⟨_, rfl, ?_⟩; have n0_ := Aside0.mk (Kd.R_mono (ok' := fun k_ => some k_ ≠ (.slice Ao70 t934.length co70 : Value).ownBlock) (Kd.R_keptB (HO_6.out) hkp (fun k_ hk_ hs_ => (hk_) hs_)) (fun k_ hk_ => hk_.1)); have n1_ := Aside0.mk (Kd.R_reok rfl hy0 (fun k_ e_ => HO_9.out.1 k_ e_)); have n2_ := Aside0.mk (hb); clear HO_6; clear HO_9; clear HB; have HO_6 := n0_; have HO_9 := n1_; have HB := n2_; clear n0_ n1_ n2_; (try clear hb); (try clear hkp); (try clear hy0)) | ((with_reducible refine gate_callee (f := 61) rfl ?_); refine goesL_ (some 71) rfl rfl Try.func61 (by kernel_rfl) rfl #[.slice Ao70 t947.length co70, .int .i64 1] rfl (by (try simp only [List.map_toArray, List.map_cons, List.map_nil]); first | done | (rw [show t947.length = t934.length from (Kd.R_reads' HO_9.out).1.symm] <;> rfl) | rfl | (simp only [List.length_drop, List.length_take]; rfl)) ?_; (with_reducible refine (laws_heldLossS.calls kj28 _ _ t947 1 t948 _ ?side1 ?side2 A45.out).mono ?_); (case side1 => repeat (first | exact (Kd.R_reads' HO_9.out).2.2 | (with_reducible refine Kd.C_alloc ?_ _) | (with_reducible refine Kd.C_drewN ?_ _) | (with_reducible refine Kd.C_drew ?_))); (case side2 => rw [show t947.length = t934.length from (Kd.R_reads' HO_9.out).1.symm]; exact (Kd.R_reads' HO_9.out).2.1); rintro e w' ⟨rfl, ⟨nd, rfl⟩⟩; refine ⟨_, rfl, ?_⟩))
                      go_ret
                      exact ⟨by first | rfl | (simp [errW_none, errW_some] <;> rfl) | (simp [*, errW_none, errW_some] <;> rfl) | (simp [Int.tdiv_eq_ediv_of_nonneg, *]; done), by repeat (first | (with_reducible first | exact HB.out | apply below_alloc | apply pw_below_drewN | apply below_drew1) | exact HB.out)⟩
          · replace c27 := Bool.eq_false_iff.mpr c27
            subst c27
            have H1 : (some false) = some r := by rw [if_neg (show ¬ (false = true) by decide)] at H; exact H
            clear H
            have H := H1
            clear H1
            obtain rfl := Option.some.inj H
            go_wp2_with (first | ((with_reducible refine gate_callee (f := 57) rfl ?_); refine goesL_ (some 47) rfl rfl Try.func57 (by kernel_rfl) rfl #[.slice A0 l0.length c0] rfl (by (try simp only [List.map_toArray, List.map_cons, List.map_nil]); first | done | rfl | (simp only [List.length_drop, List.length_take]; rfl)) ?_; (with_reducible refine (laws_toGroutS.calls kj8 _ _ l0 t939 _ ?side1 ?side2 A25.out).mono ?_); (case side1 => repeat (first | exact (Kd.C_below HR0.out HB.out) | (with_reducible refine Kd.C_alloc ?_ _) | (with_reducible refine Kd.C_drewN ?_ _) | (with_reducible refine Kd.C_drew ?_))); (case side2 => exact HC0.out); rintro e w72 ⟨v940, rfl, ho0, hb⟩; refine ⟨_, rfl, ?_⟩; have n0_ := Aside0.mk (Kd.R_below (by (with_reducible repeat (first | apply Kd.R_alloc | apply Kd.R_drewN | apply Kd.R_drew)); exact HO_6.out) hb); have n1_ := Aside0.mk (Kd.R_elder' (by (with_reducible repeat (first | apply Kd.R_alloc | apply Kd.R_drewN | apply Kd.R_drew)); exact HO_8.out) (Kd.R_base ho0) hb); have n2_ := Aside0.mk (Kd.R_below (by (with_reducible repeat (first | apply Kd.R_alloc | apply Kd.R_drewN | apply Kd.R_drew)); exact HO_9.out) hb); have n3_ := Aside0.mk (Kd.R_lower (Kd.R_new' ho0 (Kd.R_lt (by (with_reducible repeat (first | apply Kd.R_alloc | apply Kd.R_drewN | apply Kd.R_drew)); exact HO_8.out))) (below_size (by repeat (first | (with_reducible first | exact HB.out | apply below_alloc | apply pw_below_drewN | apply below_drew1) | exact HB.out)))); have n4_ := Aside0.mk (below_step (by repeat (first | (with_reducible first | exact HB.out | apply below_alloc | apply pw_below_drewN | apply below_drew1) | exact HB.out)) hb); clear HO_6; clear HO_8; clear HO_9; clear HB; have HO_6 := n0_; have HO_8 := n1_; have HO_9 := n2_; have HO941 := n3_; have HB := n4_; clear n0_ n1_ n2_ n3_ n4_; (try clear hb); (try clear hb2); (try clear hk); (try clear hi); (try clear ho0); obtain ⟨Ao73, co73, eo73⟩ := Kd.R_slice HO941.out; subst eo73) | ((with_reducible refine gate_callee (f := 59) rfl ?_); refine goesL_ (some 48) rfl rfl Try.func59 (by kernel_rfl) rfl #[.slice Ao14 t931.length co14, .slice Ao73 t939.length co73] rfl (by (try simp only [List.map_toArray, List.map_cons, List.map_nil]); first | done | rfl | (simp only [List.length_drop, List.length_take]; rfl)) ?_; (with_reducible refine (laws_eqGroutS.calls kj8 _ _ t931 _ _ t939 false _ ?side1 ?side2 ?side3 ?side4 A26.out).mono ?_); (case side1 => repeat (first | exact (Kd.R_reads' HO_8.out).2.2 | (with_reducible refine Kd.C_alloc ?_ _) | (with_reducible refine Kd.C_drewN ?_ _) | (with_reducible refine Kd.C_drew ?_))); (case side2 => exact (Kd.R_reads' HO_8.out).2.1); (case side3 => repeat (first | exact (Kd.R_reads' HO941.out).2.2 | (with_reducible refine Kd.C_alloc ?_ _) | (with_reducible refine Kd.C_drewN ?_ _) | (with_reducible refine Kd.C_drew ?_))); (case side4 => exact (Kd.R_reads' HO941.out).2.1); rintro e w74 ⟨rfl, hb⟩; refine ⟨_, rfl, ?_⟩; have n0_ := Aside0.mk (Kd.R_below (by (with_reducible repeat (first | apply Kd.R_alloc | apply Kd.R_drewN | apply Kd.R_drew)); exact HO_6.out) hb); have n1_ := Aside0.mk (Kd.R_below (by (with_reducible repeat (first | apply Kd.R_alloc | apply Kd.R_drewN | apply Kd.R_drew)); exact HO_8.out) hb); have n2_ := Aside0.mk (Kd.R_below (by (with_reducible repeat (first | apply Kd.R_alloc | apply Kd.R_drewN | apply Kd.R_drew)); exact HO_9.out) hb); have n3_ := Aside0.mk (Kd.R_below (by (with_reducible repeat (first | apply Kd.R_alloc | apply Kd.R_drewN | apply Kd.R_drew)); exact HO941.out) hb); have n4_ := Aside0.mk (below_step (by repeat (first | (with_reducible first | exact HB.out | apply below_alloc | apply pw_below_drewN | apply below_drew1) | exact HB.out)) hb); clear HO_6; clear HO_8; clear HO_9; clear HO941; clear HB; have HO_6 := n0_; have HO_8 := n1_; have HO_9 := n2_; have HO941 := n3_; have HB := n4_; clear n0_ n1_ n2_ n3_ n4_; (try clear hb); (try clear hb2); (try clear hk); (try clear hi)))
            go_ret
            exact ⟨by first | rfl | (simp [errW_none, errW_some] <;> rfl) | (simp [*, errW_none, errW_some] <;> rfl) | (simp [Int.tdiv_eq_ediv_of_nonneg, *]; done), by repeat (first | (with_reducible first | exact HB.out | apply below_alloc | apply pw_below_drewN | apply below_drew1) | exact HB.out)⟩

/-! THE PURE STATEMENT of laws_FnExactLossesOf -/
def W152 (x : S152) : Prop := (Lit.int .i64 x.f0).wf = true ∧ (Lit.int .i64 x.f1).wf = true ∧ (Lit.int .i64 x.f2).wf = true ∧ (Lit.int .i64 x.f3).wf = true
theorem cut152 {α : Type} (cs : List α) (h : cs.length = 4) : cs = (cs.drop 0).take 1 ++ ((cs.drop 1).take 1 ++ ((cs.drop 2).take 1 ++ ((cs.drop 3).take 1))) := by
  match cs, h with
  | [c0, c1, c2, c3], _ => rfl
theorem open152 : Opn.Opens Try.prog 152 k152 W152 := by
  intro H enc w base sp held fuel cs x h
  obtain ⟨xs, n, rfl, _, hl, hlen, hf⟩ := DataW.trod_struct Try.underlying152 h
  obtain ⟨y0, h0⟩ := Opn.field_at hlen hf 0 2 0 1 ⟨_, rfl, rfl, rfl⟩ (by kernel_rfl)
  obtain ⟨y1, h1⟩ := Opn.field_at hlen hf 1 2 1 1 ⟨_, rfl, rfl, rfl⟩ (by kernel_rfl)
  obtain ⟨y2, h2⟩ := Opn.field_at hlen hf 2 2 2 1 ⟨_, rfl, rfl, rfl⟩ (by kernel_rfl)
  obtain ⟨y3, h3⟩ := Opn.field_at hlen hf 3 2 3 1 ⟨_, rfl, rfl, rfl⟩ (by kernel_rfl)
  have hm : cs.length = 4 := hl.trans (by kernel_rfl)
  obtain ⟨a0, K0, w0⟩ := (Opn.opens_int Try.underlying2) h0
  obtain ⟨a1, K1, w1⟩ := (Opn.opens_int Try.underlying2) h1
  obtain ⟨a2, K2, w2⟩ := (Opn.opens_int Try.underlying2) h2
  obtain ⟨a3, K3, w3⟩ := (Opn.opens_int Try.underlying2) h3
  have hcs := cut152 cs hm
  exact ⟨⟨a0, a1, a2, a3⟩, ⟨_, _, hcs, K0, ⟨_, _, rfl, K1, ⟨_, _, rfl, K2, K3⟩⟩⟩, ⟨w0, w1, w2, w3⟩⟩
def laws_FnExactLossesOf.Pure : Prop := ∀ (l0 : List (S152)) (a1 : Int), Opn.WfL W152 l0 → (Lit.int .i64 a1).wf = true → ∃ k, laws_FnExactLossesOf.f k l0 a1 = some true
theorem laws_FnExactLossesOf.walk (P : laws_FnExactLossesOf.Pure) (A0 : Option Addr) (c0 : Nat) (l0 : List (S152)) (a1 : Int) (w : World) (hr0 : Kd.C k152 w A0 l0.length l0) (hc0 : l0.length ≤ c0) (w0 : Opn.WfL W152 l0) (w1 : (Lit.int .i64 a1).wf = true) :
    Calls Try.prog 10 #[.slice A0 l0.length c0, .int .i64 a1] w fun e w' => e = .returned (.bool true) ∧ Below w.heap.size w w' := by
  obtain ⟨k, h⟩ := P l0 a1 w0 w1
  refine (laws_FnExactLossesOf.calls k A0 c0 l0 a1 true w hr0 hc0 h).mono ?_
  rintro e w' ⟨rfl, hd⟩
  exact ⟨rfl, hd⟩

end Go.Proofs.Ytajndapolblhmab.P
/- Plain facts on numbers and lists that every loop's lemma uses. -/
namespace Go.Proofs.Ytajndapolblhmab.P
open Go.RowKit Go.Proofs.Ytajndapolblhmab.P Go.Proofs.YtajndapolblhmabW.PrintWords Go.Proofs.YtajndapolblhmabW.PrintLast Go.Proofs.YtajndapolblhmabW.PrintMore
set_option linter.unusedVariables false
set_option linter.unusedSimpArgs false
theorem w64 (x : Int) (h1 : -9223372036854775808 ≤ x) (h2 : x ≤ 9223372036854775807) : wrap64 x = x := by unfold wrap64; omega
theorem w64s (i : Nat) (h : i < 9223372036854775807) : wrap64 ((i : Int) + 1) = ((i + 1 : Nat) : Int) := by unfold wrap64; omega
theorem wf64 {x : Int} (h : (Lit.int .i64 x).wf = true) : -9223372036854775808 ≤ x ∧ x ≤ 9223372036854775807 := by
  simp only [Lit.wf, IntKind.min, IntKind.max, IntKind.signed, IntKind.bits, Bool.and_eq_true, decide_eq_true_eq, if_true] at h
  omega
theorem wfu8 {x : Int} (h : (Lit.int .u8 x).wf = true) : 0 ≤ x ∧ x ≤ 255 := by
  simp only [Lit.wf, IntKind.min, IntKind.max, IntKind.signed, IntKind.bits, Bool.and_eq_true, decide_eq_true_eq] at h
  simp at h
  omega
theorem rd_at (l : List Int) (i : Nat) (h : i < l.length) : rd l (i : Int) = l[i] := by
  unfold rd
  rw [Int.toNat_natCast, List.getD_eq_getElem?_getD, List.getElem?_eq_getElem h]
  rfl
theorem drop_at (l : List Int) (i : Nat) (h : i < l.length) : l.drop i = rd l (i : Int) :: l.drop (i + 1) := by
  rw [rd_at l i h, List.drop_eq_getElem_cons h]
theorem fill_step {α : Type} (l acc : List α) (i : Nat) (x : α) (hi : i < l.length) (hl : acc.length = l.length) (h : acc.take i = l.take i) (hx : l[i] = x) : (acc.set i x).take (i + 1) = l.take (i + 1) := by
  subst hx
  have hi2 : i < (acc.set i l[i]).length := by rw [List.length_set]; omega
  rw [List.take_succ_eq_append_getElem hi2, List.take_succ_eq_append_getElem hi, List.getElem_set_self, List.take_set_of_le (Nat.le_refl i), h]
def iota (m : Int) : Nat → List Int
  | 0 => []
  | n + 1 => m :: iota (m + 1) n
theorem iota_length (m : Int) (n : Nat) : (iota m n).length = n := by
  induction n generalizing m with
  | zero => rfl
  | succ n ih => simp [iota, ih]
theorem iota_get (m : Int) (n i : Nat) (h : i < (iota m n).length) : (iota m n)[i] = m + i := by
  induction n generalizing m i with
  | zero => rw [iota_length] at h; omega
  | succ n ih =>
    cases i with
    | zero => simp [iota]
    | succ i =>
      have h2 : i < (iota (m + 1) n).length := by rw [iota_length] at h ⊢; omega
      simp only [iota, List.getElem_cons_succ]
      rw [ih (m + 1) i h2]
      omega
theorem bind_some_ {α β : Type} (a : α) (f : α → Option β) : (some a).bind f = f a := rfl
theorem ite_tt (b r : Bool) : (if b = true then some r else some false) = some (b && r) := by cases b <;> rfl
theorem ite_ff (p : Prop) [Decidable p] (r : Bool) : (if p then some false else some r) = some (!decide p && r) := by by_cases h : p <;> simp [h]
theorem ite_pp (p : Prop) [Decidable p] (r : Bool) : (if p then some r else some false) = some (decide p && r) := by by_cases h : p <;> simp [h]
theorem not_ge_dec (a b : Int) : (!decide (a ≥ b)) = decide (a < b) := by by_cases h : a < b <;> simp [h] <;> omega

end Go.Proofs.Ytajndapolblhmab.P
/- A list of structs is equal to itself. -/
namespace Go.Proofs.Ytajndapolblhmab.P
open Go.RowKit Go.Proofs.Ytajndapolblhmab.P Go.Proofs.YtajndapolblhmabW.PrintWords Go.Proofs.YtajndapolblhmabW.PrintLast Go.Proofs.YtajndapolblhmabW.PrintMore
set_option linter.unusedVariables false
set_option linter.unusedSimpArgs false
theorem eqGroutS_loop (a : List S148) (hb : a.length ≤ 9223372036854775807) : ∀ (d k i : Nat), i + d = a.length → d < k → laws_eqGroutS.l0 k a a i = some true := by
  intro d
  induction d with
  | zero =>
    intro k i hi hk
    obtain ⟨k, rfl⟩ : ∃ m, k = m + 1 := ⟨k - 1, by omega⟩
    simp only [laws_eqGroutS.l0]
    rw [if_neg (by omega)]
  | succ d ih =>
    intro k i hi hk
    obtain ⟨k, rfl⟩ : ∃ m, k = m + 1 := ⟨k - 1, by omega⟩
    simp only [laws_eqGroutS.l0, laws_eqGrout.f, if_true, bind_some_]
    rw [if_pos (by omega), if_pos (by omega), if_pos (by omega), w64s i (by omega)]
    exact ih k (i + 1) (by omega) (by omega)
theorem eqGroutS_refl (k : Nat) (a : List S148) (hb : a.length ≤ 9223372036854775807) (hk : a.length < k) : laws_eqGroutS.f k a a = some true := by
  unfold laws_eqGroutS.f
  rw [if_pos rfl]
  exact eqGroutS_loop a hb a.length k 0 (by omega) hk

end Go.Proofs.Ytajndapolblhmab.P
/- A list of structs is equal to itself. -/
namespace Go.Proofs.Ytajndapolblhmab.P
open Go.RowKit Go.Proofs.Ytajndapolblhmab.P Go.Proofs.YtajndapolblhmabW.PrintWords Go.Proofs.YtajndapolblhmabW.PrintLast Go.Proofs.YtajndapolblhmabW.PrintMore
set_option linter.unusedVariables false
set_option linter.unusedSimpArgs false
theorem eqLossS_loop (a : List S107) (hb : a.length ≤ 9223372036854775807) : ∀ (d k i : Nat), i + d = a.length → d < k → laws_eqLossS.l0 k a a i = some true := by
  intro d
  induction d with
  | zero =>
    intro k i hi hk
    obtain ⟨k, rfl⟩ : ∃ m, k = m + 1 := ⟨k - 1, by omega⟩
    simp only [laws_eqLossS.l0]
    rw [if_neg (by omega)]
  | succ d ih =>
    intro k i hi hk
    obtain ⟨k, rfl⟩ : ∃ m, k = m + 1 := ⟨k - 1, by omega⟩
    simp only [laws_eqLossS.l0, laws_eqLoss.f, if_true, bind_some_]
    rw [if_pos (by omega), if_pos (by omega), if_pos (by omega), w64s i (by omega)]
    exact ih k (i + 1) (by omega) (by omega)
theorem eqLossS_refl (k : Nat) (a : List S107) (hb : a.length ≤ 9223372036854775807) (hk : a.length < k) : laws_eqLossS.f k a a = some true := by
  unfold laws_eqLossS.f
  rw [if_pos rfl]
  exact eqLossS_loop a hb a.length k 0 (by omega) hk

end Go.Proofs.Ytajndapolblhmab.P
/- An element of a list of structs, read at an index. -/
namespace Go.Proofs.Ytajndapolblhmab.P
open Go.RowKit Go.Proofs.Ytajndapolblhmab.P Go.Proofs.YtajndapolblhmabW.PrintWords Go.Proofs.YtajndapolblhmabW.PrintLast Go.Proofs.YtajndapolblhmabW.PrintMore
set_option linter.unusedVariables false
set_option linter.unusedSimpArgs false
theorem rdLoss_at (l : List S107) (i : Nat) (h : i < l.length) : rd_T107 l (i : Int) = l[i] := by
  unfold rd_T107
  rw [Int.toNat_natCast, List.getD_eq_getElem?_getD, List.getElem?_eq_getElem h]
  rfl
theorem dropLoss_at (l : List S107) (i : Nat) (h : i < l.length) : l.drop i = rd_T107 l (i : Int) :: l.drop (i + 1) := by
  rw [rdLoss_at l i h, List.drop_eq_getElem_cons h]

end Go.Proofs.Ytajndapolblhmab.P
/- A list of structs is marked with rising numbers, and still holds them. -/
namespace Go.Proofs.Ytajndapolblhmab.P
open Go.RowKit Go.Proofs.Ytajndapolblhmab.P Go.Proofs.YtajndapolblhmabW.PrintWords Go.Proofs.YtajndapolblhmabW.PrintLast Go.Proofs.YtajndapolblhmabW.PrintMore
set_option linter.unusedVariables false
set_option linter.unusedSimpArgs false
def iotaLoss (m : Int) (c : Nat) : List S107 := (List.range c).map fun (i : Nat) => ⟨m + 3 * (i : Int), m + 3 * (i : Int) + 1, m + 3 * (i : Int) + 2⟩
theorem iotaLoss_len (m : Int) (c : Nat) : (iotaLoss m c).length = c := by simp [iotaLoss]
theorem iotaLoss_get (m : Int) (c i : Nat) (h : i < (iotaLoss m c).length) : (iotaLoss m c)[i] = ⟨m + 3 * (i : Int), m + 3 * (i : Int) + 1, m + 3 * (i : Int) + 2⟩ := by simp [iotaLoss]
theorem rdLoss_set (l : List S107) (i : Nat) (x : S107) (h : i < l.length) : rd_T107 (l.set i x) (i : Int) = x := by
  rw [rdLoss_at _ i (by rw [List.length_set]; exact h), List.getElem_set_self]
theorem markLossS_loop (c : Nat) (hb : c ≤ 4000000000000000) (m : Int) (hm : 0 ≤ m ∧ m ≤ 4000000000000000) : ∀ (d k i : Nat) (l : List S107), i + d = c → d < k → l.length = c → l.take i = (iotaLoss m c).take i → laws_markLossS.l0 k l (m + 3 * (i : Int)) i = some (m + 3 * c, iotaLoss m c) := by
  intro d
  induction d with
  | zero =>
    intro k i l hi hk hl ht
    obtain ⟨k, rfl⟩ : ∃ m, k = m + 1 := ⟨k - 1, by omega⟩
    simp only [laws_markLossS.l0]
    rw [if_neg (by omega)]
    rw [List.take_of_length_le (by omega), List.take_of_length_le (by rw [iotaLoss_len]; omega)] at ht
    rw [ht, show i = c by omega]
  | succ d ih =>
    intro k i l hi hk hl ht
    obtain ⟨k, rfl⟩ : ∃ m, k = m + 1 := ⟨k - 1, by omega⟩
    have e1 : wrap64 (m + 3 * (i : Int) + 1) = m + 3 * (i : Int) + 1 := by
      rw [w64 _ (by omega) (by omega)] <;> omega
    have e2 : wrap64 (m + 3 * (i : Int) + 1 + 1) = m + 3 * (i : Int) + 2 := by
      rw [w64 _ (by omega) (by omega)] <;> omega
    have e3 : wrap64 (m + 3 * (i : Int) + 2 + 1) = m + 3 * ((i + 1 : Nat) : Int) := by
      rw [w64 _ (by omega) (by omega)] <;> omega
    simp only [laws_markLossS.l0, bind_some_, Int.toNat_natCast, List.set_set, rdLoss_set l i _ (show i < l.length by omega)]
    rw [if_pos (by omega), if_pos (by omega), w64s i (by omega)]
    simp only [Int.add_assoc, Int.reduceAdd] at *
    simp only [e1, e2, e3, Int.add_assoc, Int.reduceAdd]
    have ht2 := fill_step (iotaLoss m c) l i ⟨m + 3 * (i : Int), m + 3 * (i : Int) + 1, m + 3 * (i : Int) + 2⟩ (by rw [iotaLoss_len]; omega) (by rw [iotaLoss_len]; exact hl) ht (iotaLoss_get m c i (by rw [iotaLoss_len]; omega))
    have hz := ih k (i + 1) _ (by omega) (by omega) (by rw [List.length_set]; exact hl) ht2
    simp only [Int.add_assoc, Int.reduceAdd, List.set_set] at hz ⊢
    exact hz
theorem markLossS_is (k : Nat) (l : List S107) (m : Int) (hm : 0 ≤ m ∧ m ≤ 4000000000000000) (hb : l.length ≤ 4000000000000000) (hk : l.length < k) : laws_markLossS.f k l m = some (m + 3 * l.length, iotaLoss m l.length) := by
  unfold laws_markLossS.f
  have := markLossS_loop l.length hb m hm l.length k 0 l (by omega) hk rfl (by simp)
  simpa using this

end Go.Proofs.Ytajndapolblhmab.P
/- A list of structs that was marked still holds its marks. -/
namespace Go.Proofs.Ytajndapolblhmab.P
open Go.RowKit Go.Proofs.Ytajndapolblhmab.P Go.Proofs.YtajndapolblhmabW.PrintWords Go.Proofs.YtajndapolblhmabW.PrintLast Go.Proofs.YtajndapolblhmabW.PrintMore
set_option linter.unusedVariables false
set_option linter.unusedSimpArgs false
theorem heldLossS_loop (c : Nat) (hb : c ≤ 4000000000000000) (m : Int) (hm : 0 ≤ m ∧ m ≤ 4000000000000000) : ∀ (d k i : Nat), i + d = c → d < k → laws_heldLossS.l0 k (iotaLoss m c) (m + 3 * (i : Int)) i = some (m + 3 * c) := by
  intro d
  induction d with
  | zero =>
    intro k i hi hk
    obtain ⟨k, rfl⟩ : ∃ m, k = m + 1 := ⟨k - 1, by omega⟩
    simp only [laws_heldLossS.l0]
    rw [if_neg (by rw [iotaLoss_len]; omega), show i = c by omega]
  | succ d ih =>
    intro k i hi hk
    obtain ⟨k, rfl⟩ : ∃ m, k = m + 1 := ⟨k - 1, by omega⟩
    have hr : rd_T107 (iotaLoss m c) i = ⟨m + 3 * (i : Int), m + 3 * (i : Int) + 1, m + 3 * (i : Int) + 2⟩ := by rw [rdLoss_at _ i (by rw [iotaLoss_len]; omega), iotaLoss_get]
    have e1 : wrap64 (m + 3 * (i : Int) + 1) = m + 3 * (i : Int) + 1 := by
      rw [w64 _ (by omega) (by omega)] <;> omega
    have e2 : wrap64 (m + 3 * (i : Int) + 1 + 1) = m + 3 * (i : Int) + 2 := by
      rw [w64 _ (by omega) (by omega)] <;> omega
    have e3 : wrap64 (m + 3 * (i : Int) + 2 + 1) = m + 3 * ((i + 1 : Nat) : Int) := by
      rw [w64 _ (by omega) (by omega)] <;> omega
    have hz := ih k (i + 1) (by omega) (by omega)
    simp only [laws_heldLossS.l0]
    rw [if_pos (by rw [iotaLoss_len]; omega), if_pos (by omega), w64s i (by omega)]
    simp only [hr, Int.add_assoc, Int.reduceAdd, if_true] at *
    simp only [e1, e2, e3, Int.add_assoc, Int.reduceAdd, if_true]
    exact hz
theorem heldLossS_is (k : Nat) (c : Nat) (m : Int) (hm : 0 ≤ m ∧ m ≤ 4000000000000000) (hb : c ≤ 4000000000000000) (hk : c < k) : laws_heldLossS.f k (iotaLoss m c) m = some (m + 3 * c) := by
  unfold laws_heldLossS.f
  have := heldLossS_loop c hb m hm c k 0 (by omega) hk
  simpa using this

end Go.Proofs.Ytajndapolblhmab.P
/- What has set, and what is lost behind a ring, as both sides reckon it. -/
namespace Go.Proofs.Ytajndapolblhmab.P
open Go.RowKit Go.Proofs.Ytajndapolblhmab.P Go.Proofs.YtajndapolblhmabW.PrintWords Go.Proofs.YtajndapolblhmabW.PrintLast Go.Proofs.YtajndapolblhmabW.PrintMore
set_option linter.unusedVariables false
set_option linter.unusedSimpArgs false
def grSet (g : S148) : Int := wrap64 (Int.tdiv (wrap64 (g.f2 * (wrap64 (100 - g.f3)))) 100)
def grLoss (g : S148) : Int := if wrap64 (g.f1 - grSet g) < 0 then 0 else wrap64 (g.f1 - grSet g)

end Go.Proofs.Ytajndapolblhmab.P
/- A test at each of some numbers that follow one another. -/
namespace Go.Proofs.Ytajndapolblhmab.P
open Go.RowKit Go.Proofs.Ytajndapolblhmab.P Go.Proofs.YtajndapolblhmabW.PrintWords Go.Proofs.YtajndapolblhmabW.PrintLast Go.Proofs.YtajndapolblhmabW.PrintMore
set_option linter.unusedVariables false
set_option linter.unusedSimpArgs false
def upTo (p : Nat → Bool) : Nat → Nat → Bool
  | 0, _ => true
  | d + 1, i => p i && upTo p d (i + 1)
theorem upTo_iff (p : Nat → Bool) : ∀ (d i : Nat), upTo p d i = true ↔ ∀ j, i ≤ j → j < i + d → p j = true := by
  intro d
  induction d with
  | zero => intro i; simp [upTo]; intro j h1 h2; omega
  | succ d ih =>
    intro i
    simp only [upTo, Bool.and_eq_true, ih]
    constructor
    · intro ⟨h0, h⟩ j h1 h2
      by_cases e : i = j
      · rw [← e]; exact h0
      · exact h j (by omega) (by omega)
    · intro h
      exact ⟨h i (Nat.le_refl _) (by omega), fun j h1 h2 => h j (by omega) (by omega)⟩

end Go.Proofs.Ytajndapolblhmab.P
/- What is asked of a list of grouts. -/
namespace Go.Proofs.Ytajndapolblhmab.P
open Go.RowKit Go.Proofs.Ytajndapolblhmab.P Go.Proofs.YtajndapolblhmabW.PrintWords Go.Proofs.YtajndapolblhmabW.PrintLast Go.Proofs.YtajndapolblhmabW.PrintMore
set_option linter.unusedVariables false
set_option linter.unusedSimpArgs false
def grOk (l : List S148) (i : Nat) : Bool :=
  decide (0 ≤ (rd_T148 l i).f0 ∧ (rd_T148 l i).f0 ≤ 60) && decide (0 ≤ (rd_T148 l i).f1 ∧ (rd_T148 l i).f1 ≤ 100000) && decide (0 ≤ (rd_T148 l i).f2 ∧ (rd_T148 l i).f2 ≤ 100000) &&
    decide (0 ≤ (rd_T148 l i).f3 ∧ (rd_T148 l i).f3 ≤ 100) && (decide (i = 0) || decide ((rd_T148 l ((i - 1 : Nat) : Int)).f0 < (rd_T148 l i).f0))
def grValid (l : List S148) : Bool := upTo (grOk l) l.length 0 && decide ((l.length : Int) ≤ 12)

end Go.Proofs.Ytajndapolblhmab.P
/- Numbers in a range, as the program asks it of a list. -/
namespace Go.Proofs.Ytajndapolblhmab.P
open Go.RowKit Go.Proofs.Ytajndapolblhmab.P Go.Proofs.YtajndapolblhmabW.PrintWords Go.Proofs.YtajndapolblhmabW.PrintLast Go.Proofs.YtajndapolblhmabW.PrintMore
set_option linter.unusedVariables false
set_option linter.unusedSimpArgs false
theorem areWithin2 (a b lo hi : Int) : impl_areWithin.all lo hi [a, b] = (decide (lo ≤ a ∧ a ≤ hi) && decide (lo ≤ b ∧ b ≤ hi)) := by
  simp [impl_areWithin.all]

end Go.Proofs.Ytajndapolblhmab.P
/- A number lies in a range, as the program asks it. -/
namespace Go.Proofs.Ytajndapolblhmab.P
open Go.RowKit Go.Proofs.Ytajndapolblhmab.P Go.Proofs.YtajndapolblhmabW.PrintWords Go.Proofs.YtajndapolblhmabW.PrintLast Go.Proofs.YtajndapolblhmabW.PrintMore
set_option linter.unusedVariables false
set_option linter.unusedSimpArgs false
theorem within_is (a b c : Int) : impl_within.f a b c = some (decide (b ≤ a ∧ a ≤ c)) := by
  unfold impl_within.f
  by_cases h : b ≤ a <;> simp [h]

end Go.Proofs.Ytajndapolblhmab.P
/- What the program asks of a list of grouts. -/
namespace Go.Proofs.Ytajndapolblhmab.P
open Go.RowKit Go.Proofs.Ytajndapolblhmab.P Go.Proofs.YtajndapolblhmabW.PrintWords Go.Proofs.YtajndapolblhmabW.PrintLast Go.Proofs.YtajndapolblhmabW.PrintMore
set_option linter.unusedVariables false
set_option linter.unusedSimpArgs false


theorem implGrouts_loop (l : List S148) (hb : l.length ≤ 9223372036854775806) : ∀ (d k i : Nat), i + d = l.length → d < k → impl_ValidGrouts.l0 k l l l.length i = some (upTo (grOk l) d i && decide ((l.length : Int) ≤ 12)) := by
  intro d
  induction d with
  | zero =>
    intro k i hi hk
    obtain ⟨k, rfl⟩ : ∃ m, k = m + 1 := ⟨k - 1, by omega⟩
    simp only [impl_ValidGrouts.l0]
    rw [if_neg (by omega)]
    simp [upTo]
  | succ d ih =>
    intro k i hi hk
    obtain ⟨k, rfl⟩ : ∃ m, k = m + 1 := ⟨k - 1, by omega⟩
    have hr := ih k (i + 1) (by omega) (by omega)
    rw [← w64s i (by omega)] at hr
    simp only [impl_ValidGrouts.l0, impl_areWithin.f, areWithin2, within_is, bind_some_, hr]
    rw [if_pos (by omega), if_pos (by omega), if_pos (by omega)]
    simp only [upTo, grOk]
    rcases i with _ | i
    · rw [if_neg (show ¬ (((0 : Nat) : Int) > 0) by omega)]
      simp only [ite_tt]
      simp [Bool.and_assoc]
    · have e : wrap64 (((i + 1 : Nat) : Int) - 1) = (i : Int) := by rw [w64 _ (by omega) (by omega)]; omega
      rw [if_pos (show ((i + 1 : Nat) : Int) > 0 by omega), e, if_pos (show 0 ≤ (i : Int) by omega), if_pos (show (i : Int) < (l.length : Int) by omega), show ((i + 1 - 1 : Nat) : Int) = (i : Int) by omega]
      simp only [ite_tt, ite_ff, not_ge_dec]
      simp [Bool.and_assoc]
theorem implGrouts_is (k : Nat) (l : List S148) (hb : l.length ≤ 9223372036854775806) (hk : l.length < k) : impl_ValidGrouts.f k l = some (grValid l) := by
  unfold impl_ValidGrouts.f grValid
  exact implGrouts_loop l hb l.length k 0 (by omega) hk

end Go.Proofs.Ytajndapolblhmab.P
/- What has set, as the program reckons it. -/
namespace Go.Proofs.Ytajndapolblhmab.P
open Go.RowKit Go.Proofs.Ytajndapolblhmab.P Go.Proofs.YtajndapolblhmabW.PrintWords Go.Proofs.YtajndapolblhmabW.PrintLast Go.Proofs.YtajndapolblhmabW.PrintMore
set_option linter.unusedVariables false
set_option linter.unusedSimpArgs false
theorem implSet_is (g : S148) : impl_Grout_set.f g.f0 g.f1 g.f2 g.f3 = some (grSet g) := rfl

end Go.Proofs.Ytajndapolblhmab.P
/- What is lost behind a ring, as the program reckons it. -/
namespace Go.Proofs.Ytajndapolblhmab.P
open Go.RowKit Go.Proofs.Ytajndapolblhmab.P Go.Proofs.YtajndapolblhmabW.PrintWords Go.Proofs.YtajndapolblhmabW.PrintLast Go.Proofs.YtajndapolblhmabW.PrintMore
set_option linter.unusedVariables false
set_option linter.unusedSimpArgs false
theorem implLoss_is (g : S148) : impl_Grout_loss.f g.f0 g.f1 g.f2 g.f3 = some (grLoss g) := by
  unfold impl_Grout_loss.f
  rw [implSet_is, bind_some_]
  unfold mx grLoss
  rfl

end Go.Proofs.Ytajndapolblhmab.P
/- What is asked of a list of losses. -/
namespace Go.Proofs.Ytajndapolblhmab.P
open Go.RowKit Go.Proofs.Ytajndapolblhmab.P Go.Proofs.YtajndapolblhmabW.PrintWords Go.Proofs.YtajndapolblhmabW.PrintLast Go.Proofs.YtajndapolblhmabW.PrintMore
set_option linter.unusedVariables false
set_option linter.unusedSimpArgs false
def lsOk (l : List S107) (i : Nat) : Bool :=
  decide (0 ≤ (rd_T107 l i).f1 ∧ (rd_T107 l i).f1 ≤ 100000) && decide (0 ≤ (rd_T107 l i).f2 ∧ (rd_T107 l i).f2 ≤ 5) && decide ((rd_T107 l i).f2 ≤ (rd_T107 l i).f0 ∧ (rd_T107 l i).f0 ≤ wrap64 (23 - (rd_T107 l i).f2))
def lsValid (l : List S107) : Bool := upTo (lsOk l) l.length 0 && decide ((l.length : Int) ≤ 12)

end Go.Proofs.Ytajndapolblhmab.P
/- What the program asks of a list of losses. -/
namespace Go.Proofs.Ytajndapolblhmab.P
open Go.RowKit Go.Proofs.Ytajndapolblhmab.P Go.Proofs.YtajndapolblhmabW.PrintWords Go.Proofs.YtajndapolblhmabW.PrintLast Go.Proofs.YtajndapolblhmabW.PrintMore
set_option linter.unusedVariables false
set_option linter.unusedSimpArgs false
theorem implLosses_loop (l : List S107) (hb : l.length ≤ 9223372036854775806) : ∀ (d k i : Nat), i + d = l.length → d < k → impl_ValidLosses.l0 k l l l.length i = some (upTo (lsOk l) d i && decide ((l.length : Int) ≤ 12)) := by
  intro d
  induction d with
  | zero =>
    intro k i hi hk
    obtain ⟨k, rfl⟩ : ∃ m, k = m + 1 := ⟨k - 1, by omega⟩
    simp only [impl_ValidLosses.l0]
    rw [if_neg (by omega)]
    simp [upTo]
  | succ d ih =>
    intro k i hi hk
    obtain ⟨k, rfl⟩ : ∃ m, k = m + 1 := ⟨k - 1, by omega⟩
    have hr := ih k (i + 1) (by omega) (by omega)
    rw [← w64s i (by omega)] at hr
    simp only [impl_ValidLosses.l0, within_is, bind_some_, hr]
    rw [if_pos (by omega), if_pos (by omega), if_pos (by omega)]
    simp only [upTo, lsOk, ite_tt, Bool.and_assoc]
    generalize decide (0 ≤ (rd_T107 l i).f1 ∧ (rd_T107 l i).f1 ≤ 100000) = a
    generalize decide (0 ≤ (rd_T107 l i).f2 ∧ (rd_T107 l i).f2 ≤ 5) = b
    cases a <;> cases b <;> rfl
theorem implLosses_is (k : Nat) (l : List S107) (hb : l.length ≤ 9223372036854775806) (hk : l.length < k) : impl_ValidLosses.f k l = some (lsValid l) := by
  unfold impl_ValidLosses.f lsValid
  exact implLosses_loop l hb l.length k 0 (by omega) hk

end Go.Proofs.Ytajndapolblhmab.P
/- An element of a list of structs, read at an index. -/
namespace Go.Proofs.Ytajndapolblhmab.P
open Go.RowKit Go.Proofs.Ytajndapolblhmab.P Go.Proofs.YtajndapolblhmabW.PrintWords Go.Proofs.YtajndapolblhmabW.PrintLast Go.Proofs.YtajndapolblhmabW.PrintMore
set_option linter.unusedVariables false
set_option linter.unusedSimpArgs false
theorem rdGrout_at (l : List S148) (i : Nat) (h : i < l.length) : rd_T148 l (i : Int) = l[i] := by
  unfold rd_T148
  rw [Int.toNat_natCast, List.getD_eq_getElem?_getD, List.getElem?_eq_getElem h]
  rfl
theorem dropGrout_at (l : List S148) (i : Nat) (h : i < l.length) : l.drop i = rd_T148 l (i : Int) :: l.drop (i + 1) := by
  rw [rdGrout_at l i h, List.drop_eq_getElem_cons h]

end Go.Proofs.Ytajndapolblhmab.P
/- The losses behind rings, as the program lists them. -/
namespace Go.Proofs.Ytajndapolblhmab.P
open Go.RowKit Go.Proofs.Ytajndapolblhmab.P Go.Proofs.YtajndapolblhmabW.PrintWords Go.Proofs.YtajndapolblhmabW.PrintLast Go.Proofs.YtajndapolblhmabW.PrintMore
set_option linter.unusedVariables false
set_option linter.unusedSimpArgs false
def lossAt (w : Int) (g : S148) : S107 := ⟨g.f0, grLoss g, w⟩
def lossesOf (l : List S148) (w : Int) : List S107 × Bool :=
  if grValid l = true ∧ (0 ≤ w ∧ w ≤ 5) then (if lsValid (l.map (lossAt w)) = true then (l.map (lossAt w), true) else ([], false)) else ([], false)
theorem implLossesOf_loop (w : Int) (l : List S148) (hb : l.length ≤ 1000000) : ∀ (d k i : Nat) (acc : List S107), i + d = l.length → d + 1 + l.length < k → acc.length = i →
    impl_LossesOf.l0 k w acc l l.length i = some (if lsValid (acc ++ (l.drop i).map (lossAt w)) = true then (acc ++ (l.drop i).map (lossAt w), true) else ([], false)) := by
  intro d
  induction d with
  | zero =>
    intro k i acc hi hk ha
    obtain ⟨k, rfl⟩ : ∃ m, k = m + 1 := ⟨k - 1, by omega⟩
    simp only [impl_LossesOf.l0]
    rw [if_neg (by omega), List.drop_of_length_le (by omega), List.map_nil, List.append_nil, implLosses_is _ _ (by omega) (by omega), bind_some_]
    by_cases h : lsValid acc = true
    · rw [if_pos h, if_pos h]
    · rw [if_neg h, if_neg h]
  | succ d ih =>
    intro k i acc hi hk ha
    obtain ⟨k, rfl⟩ : ∃ m, k = m + 1 := ⟨k - 1, by omega⟩
    rw [dropGrout_at l i (by omega)]
    simp only [impl_LossesOf.l0]
    rw [if_pos (by omega), if_pos (by omega), if_pos (by omega), implLoss_is, bind_some_, if_pos (by omega), w64s i (by omega), ih k (i + 1) _ (by omega) (by omega) (by simp; omega)]
    simp only [List.map_cons, List.append_assoc, List.singleton_append]
    rfl
theorem implLossesOf_is (k : Nat) (l : List S148) (w : Int) (hb : l.length ≤ 1048576) (hk : 2 * l.length + 5 < k) : impl_LossesOf.f k l w = some (lossesOf l w) := by
  obtain ⟨k, rfl⟩ : ∃ m, k = m + 1 := ⟨k - 1, by omega⟩
  unfold impl_LossesOf.f lossesOf
  rw [implGrouts_is _ l (by omega) (by omega), bind_some_, within_is, bind_some_]
  simp only [impl_LossesOf.j0]
  by_cases h1 : grValid l = true
  · by_cases h2 : (0 ≤ w ∧ w ≤ 5)
    · have hl : l.length ≤ 12 := by
        unfold grValid at h1
        simp only [Bool.and_eq_true, decide_eq_true_eq] at h1
        omega
      have := implLossesOf_loop w l (by omega) l.length k 0 [] (by omega) (by omega) rfl
      rw [show ((0 : Nat) : Int) = 0 by rfl, List.nil_append, List.drop_zero] at this
      simp [h1, h2, this]
    · simp [h1, h2]
  · simp [h1]

end Go.Proofs.Ytajndapolblhmab.P
/- A list of structs is marked with rising numbers, and still holds them. -/
namespace Go.Proofs.Ytajndapolblhmab.P
open Go.RowKit Go.Proofs.Ytajndapolblhmab.P Go.Proofs.YtajndapolblhmabW.PrintWords Go.Proofs.YtajndapolblhmabW.PrintLast Go.Proofs.YtajndapolblhmabW.PrintMore
set_option linter.unusedVariables false
set_option linter.unusedSimpArgs false
def iotaGrout (m : Int) (c : Nat) : List S148 := (List.range c).map fun (i : Nat) => ⟨m + 4 * (i : Int), m + 4 * (i : Int) + 1, m + 4 * (i : Int) + 2, m + 4 * (i : Int) + 3⟩
theorem iotaGrout_len (m : Int) (c : Nat) : (iotaGrout m c).length = c := by simp [iotaGrout]
theorem iotaGrout_get (m : Int) (c i : Nat) (h : i < (iotaGrout m c).length) : (iotaGrout m c)[i] = ⟨m + 4 * (i : Int), m + 4 * (i : Int) + 1, m + 4 * (i : Int) + 2, m + 4 * (i : Int) + 3⟩ := by simp [iotaGrout]
theorem rdGrout_set (l : List S148) (i : Nat) (x : S148) (h : i < l.length) : rd_T148 (l.set i x) (i : Int) = x := by
  rw [rdGrout_at _ i (by rw [List.length_set]; exact h), List.getElem_set_self]
theorem markGroutS_loop (c : Nat) (hb : c ≤ 4000000000000000) (m : Int) (hm : 0 ≤ m ∧ m ≤ 4000000000000000) : ∀ (d k i : Nat) (l : List S148), i + d = c → d < k → l.length = c → l.take i = (iotaGrout m c).take i → laws_markGroutS.l0 k l (m + 4 * (i : Int)) i = some (m + 4 * c, iotaGrout m c) := by
  intro d
  induction d with
  | zero =>
    intro k i l hi hk hl ht
    obtain ⟨k, rfl⟩ : ∃ m, k = m + 1 := ⟨k - 1, by omega⟩
    simp only [laws_markGroutS.l0]
    rw [if_neg (by omega)]
    rw [List.take_of_length_le (by omega), List.take_of_length_le (by rw [iotaGrout_len]; omega)] at ht
    rw [ht, show i = c by omega]
  | succ d ih =>
    intro k i l hi hk hl ht
    obtain ⟨k, rfl⟩ : ∃ m, k = m + 1 := ⟨k - 1, by omega⟩
    have e1 : wrap64 (m + 4 * (i : Int) + 1) = m + 4 * (i : Int) + 1 := by
      rw [w64 _ (by omega) (by omega)] <;> omega
    have e2 : wrap64 (m + 4 * (i : Int) + 1 + 1) = m + 4 * (i : Int) + 2 := by
      rw [w64 _ (by omega) (by omega)] <;> omega
    have e3 : wrap64 (m + 4 * (i : Int) + 2 + 1) = m + 4 * (i : Int) + 3 := by
      rw [w64 _ (by omega) (by omega)] <;> omega
    have e4 : wrap64 (m + 4 * (i : Int) + 3 + 1) = m + 4 * ((i + 1 : Nat) : Int) := by
      rw [w64 _ (by omega) (by omega)] <;> omega
    simp only [laws_markGroutS.l0, bind_some_, Int.toNat_natCast, List.set_set, rdGrout_set l i _ (show i < l.length by omega)]
    rw [if_pos (by omega), if_pos (by omega), w64s i (by omega)]
    simp only [Int.add_assoc, Int.reduceAdd] at *
    simp only [e1, e2, e3, e4, Int.add_assoc, Int.reduceAdd]
    have ht2 := fill_step (iotaGrout m c) l i ⟨m + 4 * (i : Int), m + 4 * (i : Int) + 1, m + 4 * (i : Int) + 2, m + 4 * (i : Int) + 3⟩ (by rw [iotaGrout_len]; omega) (by rw [iotaGrout_len]; exact hl) ht (iotaGrout_get m c i (by rw [iotaGrout_len]; omega))
    have hz := ih k (i + 1) _ (by omega) (by omega) (by rw [List.length_set]; exact hl) ht2
    simp only [Int.add_assoc, Int.reduceAdd, List.set_set] at hz ⊢
    exact hz
theorem markGroutS_is (k : Nat) (l : List S148) (m : Int) (hm : 0 ≤ m ∧ m ≤ 4000000000000000) (hb : l.length ≤ 4000000000000000) (hk : l.length < k) : laws_markGroutS.f k l m = some (m + 4 * l.length, iotaGrout m l.length) := by
  unfold laws_markGroutS.f
  have := markGroutS_loop l.length hb m hm l.length k 0 l (by omega) hk rfl (by simp)
  simpa using this

end Go.Proofs.Ytajndapolblhmab.P
/- A number lies in a range, as the reference asks it. -/
namespace Go.Proofs.Ytajndapolblhmab.P
open Go.RowKit Go.Proofs.Ytajndapolblhmab.P Go.Proofs.YtajndapolblhmabW.PrintWords Go.Proofs.YtajndapolblhmabW.PrintLast Go.Proofs.YtajndapolblhmabW.PrintMore
set_option linter.unusedVariables false
set_option linter.unusedSimpArgs false
theorem in_is (a b c : Int) : spec_l00In.f a b c = some (decide (b ≤ a ∧ a ≤ c)) := by
  unfold spec_l00In.f
  by_cases h : b ≤ a <;> simp [h]

end Go.Proofs.Ytajndapolblhmab.P
/- What the reference asks of a list of grouts. -/
namespace Go.Proofs.Ytajndapolblhmab.P
open Go.RowKit Go.Proofs.Ytajndapolblhmab.P Go.Proofs.YtajndapolblhmabW.PrintWords Go.Proofs.YtajndapolblhmabW.PrintLast Go.Proofs.YtajndapolblhmabW.PrintMore
set_option linter.unusedVariables false
set_option linter.unusedSimpArgs false
theorem specGrouts_loop (l : List S148) (hb : l.length ≤ 9223372036854775806) : ∀ (d k i : Nat), i + d = l.length → d < k → spec_l07Grouts.l0 k l i = some (upTo (grOk l) d i && decide ((l.length : Int) ≤ 12)) := by
  intro d
  induction d with
  | zero =>
    intro k i hi hk
    obtain ⟨k, rfl⟩ : ∃ m, k = m + 1 := ⟨k - 1, by omega⟩
    simp only [spec_l07Grouts.l0]
    rw [if_neg (by omega)]
    simp [upTo]
  | succ d ih =>
    intro k i hi hk
    obtain ⟨k, rfl⟩ : ∃ m, k = m + 1 := ⟨k - 1, by omega⟩
    have hr := ih k (i + 1) (by omega) (by omega)
    rw [← w64s i (by omega)] at hr
    simp only [spec_l07Grouts.l0, spec_l07Litres.f, in_is, bind_some_, hr]
    rw [if_pos (by omega), if_pos (by omega)]
    simp only [upTo, grOk]
    rcases i with _ | i
    · rw [if_neg (show ¬ (((0 : Nat) : Int) > 0) by omega)]
      simp only [ite_tt]
      simp [Bool.and_assoc]
    · have e : wrap64 (((i + 1 : Nat) : Int) - 1) = (i : Int) := by rw [w64 _ (by omega) (by omega)]; omega
      rw [if_pos (show ((i + 1 : Nat) : Int) > 0 by omega), e, if_pos (show 0 ≤ (i : Int) by omega), if_pos (show (i : Int) < (l.length : Int) by omega), show ((i + 1 - 1 : Nat) : Int) = (i : Int) by omega]
      simp only [ite_tt, ite_ff, not_ge_dec]
      simp [Bool.and_assoc]
theorem specGrouts_is (k : Nat) (l : List S148) (hb : l.length ≤ 9223372036854775806) (hk : l.length < k) : spec_l07Grouts.f k l = some (grValid l) := by
  unfold spec_l07Grouts.f grValid
  exact specGrouts_loop l hb l.length k 0 (by omega) hk

end Go.Proofs.Ytajndapolblhmab.P
/- What the reference asks of a list of losses. -/
namespace Go.Proofs.Ytajndapolblhmab.P
open Go.RowKit Go.Proofs.Ytajndapolblhmab.P Go.Proofs.YtajndapolblhmabW.PrintWords Go.Proofs.YtajndapolblhmabW.PrintLast Go.Proofs.YtajndapolblhmabW.PrintMore
set_option linter.unusedVariables false
set_option linter.unusedSimpArgs false
theorem specLosses_loop (l : List S107) (hb : l.length ≤ 9223372036854775806) : ∀ (d k i : Nat), i + d = l.length → d < k → spec_l07Losses.l0 k l i = some (upTo (lsOk l) d i && decide ((l.length : Int) ≤ 12)) := by
  intro d
  induction d with
  | zero =>
    intro k i hi hk
    obtain ⟨k, rfl⟩ : ∃ m, k = m + 1 := ⟨k - 1, by omega⟩
    simp only [spec_l07Losses.l0]
    rw [if_neg (by omega)]
    simp [upTo]
  | succ d ih =>
    intro k i hi hk
    obtain ⟨k, rfl⟩ : ∃ m, k = m + 1 := ⟨k - 1, by omega⟩
    have hr := ih k (i + 1) (by omega) (by omega)
    rw [← w64s i (by omega)] at hr
    simp only [spec_l07Losses.l0, spec_l07Litres.f, in_is, bind_some_, hr]
    rw [if_pos (by omega), if_pos (by omega)]
    simp only [upTo, lsOk, ite_tt, Bool.and_assoc]
theorem specLosses_is (k : Nat) (l : List S107) (hb : l.length ≤ 9223372036854775806) (hk : l.length < k) : spec_l07Losses.f k l = some (lsValid l) := by
  unfold spec_l07Losses.f lsValid
  exact specLosses_loop l hb l.length k 0 (by omega) hk

end Go.Proofs.Ytajndapolblhmab.P
/- The greater one of two numbers, as the reference tells it. -/
namespace Go.Proofs.Ytajndapolblhmab.P
open Go.RowKit Go.Proofs.Ytajndapolblhmab.P Go.Proofs.YtajndapolblhmabW.PrintWords Go.Proofs.YtajndapolblhmabW.PrintLast Go.Proofs.YtajndapolblhmabW.PrintMore
set_option linter.unusedVariables false
set_option linter.unusedSimpArgs false
theorem l00Max_is (a b : Int) : spec_l00Max.f a b = some (if a > b then a else b) := by
  unfold spec_l00Max.f
  by_cases h : a > b <;> simp [h]

end Go.Proofs.Ytajndapolblhmab.P
/- What has set, as the reference reckons it. -/
namespace Go.Proofs.Ytajndapolblhmab.P
open Go.RowKit Go.Proofs.Ytajndapolblhmab.P Go.Proofs.YtajndapolblhmabW.PrintWords Go.Proofs.YtajndapolblhmabW.PrintLast Go.Proofs.YtajndapolblhmabW.PrintMore
set_option linter.unusedVariables false
set_option linter.unusedSimpArgs false
theorem specSet_is (g : S148) : spec_l07Set.f g.f0 g.f1 g.f2 g.f3 = some (grSet g) := rfl
theorem grLoss_spec (g : S148) : spec_l00Max.f 0 (wrap64 (g.f1 - grSet g)) = some (grLoss g) := by
  rw [l00Max_is]
  unfold grLoss
  by_cases h : wrap64 (g.f1 - grSet g) < 0 <;> simp [h]

end Go.Proofs.Ytajndapolblhmab.P
/- The losses behind rings, as the reference lists them. -/
namespace Go.Proofs.Ytajndapolblhmab.P
open Go.RowKit Go.Proofs.Ytajndapolblhmab.P Go.Proofs.YtajndapolblhmabW.PrintWords Go.Proofs.YtajndapolblhmabW.PrintLast Go.Proofs.YtajndapolblhmabW.PrintMore
set_option linter.unusedVariables false
set_option linter.unusedSimpArgs false
theorem specLossesOf_loop (w : Int) (l : List S148) (hb : l.length ≤ 1000000) : ∀ (d k i : Nat) (acc : List S107), i + d = l.length → d + 1 + l.length < k → acc.length = i →
    spec_LossesOf.l0 k l w acc i = some (if lsValid (acc ++ (l.drop i).map (lossAt w)) = true then (acc ++ (l.drop i).map (lossAt w), true) else ([], false)) := by
  intro d
  induction d with
  | zero =>
    intro k i acc hi hk ha
    obtain ⟨k, rfl⟩ : ∃ m, k = m + 1 := ⟨k - 1, by omega⟩
    simp only [spec_LossesOf.l0]
    rw [if_neg (by omega), List.drop_of_length_le (by omega), List.map_nil, List.append_nil, specLosses_is _ _ (by omega) (by omega), bind_some_]
    by_cases h : lsValid acc = true
    · rw [if_pos h, if_pos h]
    · rw [if_neg h, if_neg h]
  | succ d ih =>
    intro k i acc hi hk ha
    obtain ⟨k, rfl⟩ : ∃ m, k = m + 1 := ⟨k - 1, by omega⟩
    rw [dropGrout_at l i (by omega)]
    simp only [spec_LossesOf.l0]
    rw [if_pos (by omega), if_pos (by omega), specSet_is, bind_some_, grLoss_spec, bind_some_, if_pos (by omega), w64s i (by omega), ih k (i + 1) _ (by omega) (by omega) (by simp; omega)]
    simp only [List.map_cons, List.append_assoc, List.singleton_append]
    rfl
theorem specLossesOf_is (k : Nat) (l : List S148) (w : Int) (hb : l.length ≤ 1048576) (hk : 2 * l.length + 5 < k) : spec_LossesOf.f k l w = some (lossesOf l w) := by
  obtain ⟨k, rfl⟩ : ∃ m, k = m + 1 := ⟨k - 1, by omega⟩
  unfold spec_LossesOf.f lossesOf
  rw [specGrouts_is _ l (by omega) (by omega), bind_some_, in_is, bind_some_]
  simp only [spec_LossesOf.j0]
  by_cases h1 : grValid l = true
  · by_cases h2 : (0 ≤ w ∧ w ≤ 5)
    · have hl : l.length ≤ 12 := by
        unfold grValid at h1
        simp only [Bool.and_eq_true, decide_eq_true_eq] at h1
        omega
      have := specLossesOf_loop w l (by omega) l.length k 0 [] (by omega) (by omega) rfl
      rw [show ((0 : Nat) : Int) = 0 by rfl, List.nil_append, List.drop_zero] at this
      simp [h1, h2, this]
    · simp [h1, h2]
  · simp [h1]

end Go.Proofs.Ytajndapolblhmab.P
/- A list of the law's own structs is copied into the program's. -/
namespace Go.Proofs.Ytajndapolblhmab.P
open Go.RowKit Go.Proofs.Ytajndapolblhmab.P Go.Proofs.YtajndapolblhmabW.PrintWords Go.Proofs.YtajndapolblhmabW.PrintLast Go.Proofs.YtajndapolblhmabW.PrintMore
set_option linter.unusedVariables false
set_option linter.unusedSimpArgs false
def toGrout (x : S152) : S148 := ⟨x.f0, x.f1, x.f2, x.f3⟩
theorem rdLGrout_at (l : List S152) (i : Nat) (h : i < l.length) : rd_T152 l (i : Int) = l[i] := by
  unfold rd_T152
  rw [Int.toNat_natCast, List.getD_eq_getElem?_getD, List.getElem?_eq_getElem h]
  rfl
theorem toGroutS_loop (l : List S152) (hb : l.length ≤ 9223372036854775807) : ∀ (d k i : Nat) (acc : List S148), i + d = l.length → d < k → acc.length = l.length → acc.take i = (l.map toGrout).take i → laws_toGroutS.l0 k l acc i = some (l.map toGrout) := by
  intro d
  induction d with
  | zero =>
    intro k i acc hi hk ha ht
    obtain ⟨k, rfl⟩ : ∃ m, k = m + 1 := ⟨k - 1, by omega⟩
    simp only [laws_toGroutS.l0]
    rw [if_neg (by omega)]
    rw [List.take_of_length_le (by omega), List.take_of_length_le (by rw [List.length_map]; omega)] at ht
    rw [ht]
  | succ d ih =>
    intro k i acc hi hk ha ht
    obtain ⟨k, rfl⟩ : ∃ m, k = m + 1 := ⟨k - 1, by omega⟩
    simp only [laws_toGroutS.l0, laws_toGrout.f, bind_some_]
    rw [if_pos (by omega), if_pos (by omega), if_pos (by omega), w64s i (by omega), Int.toNat_natCast]
    refine ih k (i + 1) _ (by omega) (by omega) (by rw [List.length_set]; exact ha) (fill_step (l.map toGrout) acc i _ (by rw [List.length_map]; omega) (by rw [List.length_map]; exact ha) ht ?_)
    rw [List.getElem_map, rdLGrout_at l i (by omega)]
    rfl
theorem toGroutS_is (k : Nat) (l : List S152) (hb : l.length ≤ 1048576) (hk : l.length < k) : laws_toGroutS.f k l = some (l.map toGrout) := by
  unfold laws_toGroutS.f
  rw [if_pos (by omega), if_pos (by omega)]
  exact toGroutS_loop l (by omega) l.length k 0 _ (by omega) hk (by simp) (by simp)

end Go.Proofs.Ytajndapolblhmab.P
