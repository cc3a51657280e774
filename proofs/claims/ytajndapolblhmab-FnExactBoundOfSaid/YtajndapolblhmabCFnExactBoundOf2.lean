/- What the claim of FnExactBoundOf bears, part 2: functions of the program as plain Lean functions, with proofs that the code comes to their answers, and lemmas on them. -/
import Derived.Test.YtajndapolblhmabCFnExactBoundOf0
import Derived.Test.YtajndapolblhmabCFnExactBoundOf1
namespace Go.Proofs.Ytajndapolblhmab.P
open Go.RowKit Go.Proofs.YtajndapolblhmabW.PrintWords Go.Proofs.YtajndapolblhmabW.PrintLast Go.Proofs.YtajndapolblhmabW.PrintMore
attribute [local go_sem] max2_int min2_int max_two min_two max_three min_three max_four min_four   -- for this text's walks alone
set_option linter.unusedVariables false
set_option linter.unusedSimpArgs false

mutual
def spec_l08Needs.l0 : Nat → Int → List (List Int) → Int → List (S79) → List Int → List Int → Int → Int → Option ((List (List Int)) × Bool)
 | 0, _, _, _, _, _, _, _, _ => none
 | k + 1, x1, x6, x7, x1000, x1001, x1002, x1003, x1004 => (spec_l08Range.f k x1000 x1001 x1002 x1003 x1004 x1 x7 0).bind fun t1106 => (if (wrap64 (x7 + t1106)) = (x1001.length : Int) then (some (x6, true)) else (spec_l08Needs.l1 k x1 x6 x7 (wrap64 (x7 + t1106)) (-1) 0 x1000 x1001 x1002 x1003 x1004))
def spec_l08Needs.l1 : Nat → Int → List (List Int) → Int → Int → Int → Int → List (S79) → List Int → List Int → Int → Int → Option ((List (List Int)) × Bool)
 | 0, _, _, _, _, _, _, _, _, _, _, _ => none
 | k + 1, x1, x6, x7, x8, x9, x10, x1000, x1001, x1002, x1003, x1004 => if x10 < (x1002.length : Int) then (if 0 ≤ x10 then (if (rd x1002 x10) > x7 then (if (rd x1002 x10) ≤ x8 then (spec_l08Needs.l1 k x1 x6 x7 x8 (rd x1002 x10) (wrap64 (x10 + 1)) x1000 x1001 x1002 x1003 x1004) else (spec_l08Needs.l1 k x1 x6 x7 x8 x9 (wrap64 (x10 + 1)) x1000 x1001 x1002 x1003 x1004)) else (spec_l08Needs.l1 k x1 x6 x7 x8 x9 (wrap64 (x10 + 1)) x1000 x1001 x1002 x1003 x1004)) else (none)) else (if x9 < 0 then (some ((([] : List (List Int))), false)) else (if x6.length < 5864062014805 then (spec_l08Needs.l0 k x1 (x6 ++ [(([x7, x8] : List Int))]) x9 x1000 x1001 x1002 x1003 x1004) else (none)))
end
def spec_l08Needs.f (k : Nat) (l0_0 : List (S79)) (l0_1 : List Int) (l0_2 : List Int) (a0_3 : Int) (a0_4 : Int) (a1 : Int) : Option ((List (List Int)) × Bool) := spec_l08Needs.l0 k a1 (([] : List (List Int))) 0 l0_0 l0_1 l0_2 a0_3 a0_4
set_option maxHeartbeats 8000000 in
set_option maxRecDepth 100000 in
theorem spec_l08Needs.calls (k : Nat) (g0_ : Nat) (A0_0 : Option Addr) (c0_0 : Nat) (l0_0 : List (S79)) (A0_1 : Option Addr) (c0_1 : Nat) (l0_1 : List Int) (A0_2 : Option Addr) (c0_2 : Nat) (l0_2 : List Int) (a0_3 : Int) (a0_4 : Int) (a1 : Int) (r1 : List (List Int)) (r2 : Bool) (w : World) (hr0_0 : Kd.C k79 w A0_0 l0_0.length l0_0) (hc0_0 : l0_0.length ≤ c0_0) (hr0_1 : Kd.C (Kd.int .i64) w A0_1 l0_1.length l0_1) (hc0_1 : l0_1.length ≤ c0_1) (hr0_2 : Kd.C (Kd.int .i64) w A0_2 l0_2.length l0_2) (hc0_2 : l0_2.length ≤ c0_2) (hb0_ : w.heap[g0_]? = some (.cells #[.slice A0_0 l0_0.length c0_0, .slice A0_1 l0_1.length c0_1, .slice A0_2 l0_2.length c0_2, .int .i64 a0_3, .int .i64 a0_4] 64 (0, 0))) (h : spec_l08Needs.f k l0_0 l0_1 l0_2 a0_3 a0_4 a1 = some (r1, r2)) :
  Calls Try.prog 126 #[.pointer (some ⟨g0_, 0, none⟩), .int .i64 a1] w fun e w' => ∃ v0_ : Value, e = .returned (.tuple #[v0_, .bool r2]) ∧ Kd.S (Kd.slice 2 (Kd.int .i64)) 24 w' w.heap.size (fun _ => True) v0_ r1 ∧ Below w.heap.size w w' := by
 have HR0_0 := Aside0.mk hr0_0
 have HC0_0 := Aside0.mk hc0_0
 clear hr0_0 hc0_0
 have HR0_1 := Aside0.mk hr0_1
 have HC0_1 := Aside0.mk hc0_1
 clear hr0_1 hc0_1
 have HR0_2 := Aside0.mk hr0_2
 have HC0_2 := Aside0.mk hc0_2
 clear hr0_2 hc0_2
 have BK0 := Aside0.mk hb0_
 clear hb0_
 have HB := Aside0.mk (Below.refl w.heap.size w)
 have H : (spec_l08Needs.l0 k a1 (([] : List (List Int))) 0 l0_0 l0_1 l0_2 a0_3 a0_4) = some (r1, r2) := h
 clear h
 obtain ⟨y1103, hy1103⟩ : ∃ y_ : List (List Int), y_ = (([] : List (List Int))) := ⟨_, rfl⟩
 replace H : (spec_l08Needs.l0 k a1 y1103 0 l0_0 l0_1 l0_2 a0_3 a0_4) = some (r1, r2) := by first | (rw [hy1103]; with_reducible exact H) | (have H2_ := (Option.bind_some _ _).symm.trans H; rw [hy1103]; with_reducible exact H2_) | (have H2_ := (Option.bind_some _ _).symm.trans H; with_reducible exact H2_) | with_reducible exact H | (rw [hy1103]; exact H) | exact H
 have Ny1103 := Aside0.mk hy1103
 clear hy1103
 have H' := Aside0.mk H
 clear H
 go_enter Try.func126, Try.ntmps126
 go_wp2_with (first | ((with_reducible refine gate_dst (N := 11) rfl ?_); refine Kd.S_lit (Kd.slice 2 (Kd.int .i64)) _ 24 ?hg (N := 11) ?hd (xs := ([] : List (List Int))) (inner := []) (ok := fun _ => True) (okp := fun _ => True) ?hr ?hp (fun _ hk => hk) trivial (Below.refl _ _) (Nat.le_refl _) (by simp) ?_; (case hd => rfl); (case hg => rfl); (case hr => first | (go_simp; done) | (go_simp; rfl)); (case hp => exact (Reps.none _ _)); intro v1104 w3 ho4 hb hg_ hnew_; clear hg_ hnew_; (first | rw [← Ny1103.out] at ho4 | (simp only [Int.reduceToNat] at ho4; rw [← Ny1103.out] at ho4)); have n0_ := Aside0.mk (Kd.S_lower ho4 (below_size (by repeat (first | (with_reducible first | exact HB.out | apply below_alloc | apply pw_below_drewN | apply below_drew1 | refine below_set ?_ GE0.out) | exact HB.out)))); have n1_ := Aside0.mk (blk_below (g := g0_) (o := .cells #[.slice A0_0 l0_0.length c0_0, .slice A0_1 l0_1.length c0_1, .slice A0_2 l0_2.length c0_2, .int .i64 a0_3, .int .i64 a0_4] 64 (0, 0)) (by (with_reducible repeat (first | refine blk_drewN ?_ _ | refine blk_drew ?_ | refine blk_alloc ?_ _)); exact BK0.out) hb); have n2_ := Aside0.mk (below_step (by repeat (first | (with_reducible first | exact HB.out | apply below_alloc | apply pw_below_drewN | apply below_drew1 | refine below_set ?_ GE0.out) | exact HB.out)) hb); clear BK0; clear HB; have HO1105 := n0_; have BK0 := n1_; have HB := n2_; clear n0_ n1_ n2_; clear hb ho4))
 go_loopg [6, 7] k (fun kq v6 v7 w' => ∃ (x6_1 : List (List Int)) (x7_1 : Int) (x1003_1 : Int) (x1004_1 : Int), v7 = .int .i64 x7_1 ∧ Aside0 (spec_l08Needs.l0 kq a1 x6_1 x7_1 l0_0 l0_1 l0_2 x1003_1 x1004_1 = some (r1, r2)) ∧ Aside0 (kq ≤ k) ∧ Aside0 (Kd.S (Kd.slice 2 (Kd.int .i64)) 24 w' w.heap.size (fun _ => True) v6 x6_1) ∧ Aside0 (w'.heap[g0_]? = some (.cells #[(.slice A0_0 l0_0.length c0_0), (.slice A0_1 l0_1.length c0_1), (.slice A0_2 l0_2.length c0_2), .int .i64 x1003_1, .int .i64 x1004_1] 64 (0, 0))) ∧ Aside0 (Below w.heap.size w w'))
 case atStart => exact ⟨(y1103), (0), (a0_3), (a0_4), (by first | rfl | (simp; done) | (simp [*]; done) | (simp [Int.tdiv_eq_ediv_of_nonneg, *]; done)), H', ⟨Nat.le_refl _⟩, ⟨by (with_reducible repeat (first | apply Kd.S_alloc | apply Kd.S_drewN | apply Kd.S_drew)); exact HO1105.out⟩, ⟨by (with_reducible repeat (first | refine blk_drewN ?_ _ | refine blk_drew ?_ | refine blk_alloc ?_ _)); exact BK0.out⟩, ⟨by repeat (first | (with_reducible first | exact HB.out | apply below_alloc | apply pw_below_drewN | apply below_drew1 | refine below_set ?_ GE0.out) | exact HB.out)⟩⟩
 case round =>
  clear H'
  try clear c1
  try clear p2
  obtain ⟨x6_1, x7_1, x1003_1, x1004_1, rfl, HA, HK1, HO_6, BK0, HB⟩ := hrel
  cases gk with
  | zero => exact absurd HA.out (by simp [spec_l08Needs.l0])
  | succ k1 =>
   have H := HA.out
   clear HA
   simp only [spec_l08Needs.l0] at H
   replace H := Option.bind_eq_some_iff.mp H
   obtain ⟨t1106, A50, H⟩ := H
   replace H : (if (wrap64 (x7_1 + t1106)) = (l0_1.length : Int) then (some (x6_1, true)) else (spec_l08Needs.l1 k1 a1 x6_1 x7_1 (wrap64 (x7_1 + t1106)) (-1) 0 l0_0 l0_1 l0_2 x1003_1 x1004_1)) = some (r1, r2) := H
   have A5 := Aside0.mk A50
   clear A50
   by_cases c6 : (wrap64 (x7_1 + t1106)) = (l0_1.length : Int)
   ·rw [if_pos c6] at H
    have c6b0 : ((wrap64 (x7_1 + t1106)) == (l0_1.length : Int)) = true := beq_iff_eq.mpr c6
    have c6b1 : ((wrap64 (x7_1 + t1106)) != (l0_1.length : Int)) = false := bne_eq_false_iff_eq.mpr c6
    clear c6
    simp only [Option.some.injEq, Prod.mk.injEq] at H
    obtain ⟨rfl, rfl⟩ := H
    go_wp2_with (first | ((with_reducible refine gate_callee (f := 109) rfl ?_); refine goesL_ (some 16) rfl rfl Try.func109 (by kernel_rfl) rfl #[.pointer (some ⟨g0_, 0, none⟩), .int .i64 a1, .int .i64 x7_1, .int .i64 0] rfl (by (try simp only [List.map_toArray, List.map_cons, List.map_nil]); first | done | rfl | (simp only [List.length_drop, List.length_take]; rfl)) ?_; (with_reducible refine (spec_l08Range.calls k1 g0_ A0_0 c0_0 l0_0 A0_1 c0_1 l0_1 A0_2 c0_2 l0_2 x1003_1 x1004_1 a1 x7_1 0 t1106 _ ?side1 ?side2 ?side3 ?side4 ?side5 ?side6 ?side7 A5.out).mono ?_); (case side1 => repeat (first | exact (Kd.C_below HR0_0.out HB.out) | (with_reducible refine Kd.C_alloc ?_ _) | (with_reducible refine Kd.C_drewN ?_ _) | (with_reducible refine Kd.C_drew ?_))); (case side2 => exact HC0_0.out); (case side3 => repeat (first | exact (Kd.C_below HR0_1.out HB.out) | (with_reducible refine Kd.C_alloc ?_ _) | (with_reducible refine Kd.C_drewN ?_ _) | (with_reducible refine Kd.C_drew ?_))); (case side4 => exact HC0_1.out); (case side5 => repeat (first | exact (Kd.C_below HR0_2.out HB.out) | (with_reducible refine Kd.C_alloc ?_ _) | (with_reducible refine Kd.C_drewN ?_ _) | (with_reducible refine Kd.C_drew ?_))); (case side6 => exact HC0_2.out); (case side7 => exact (by (with_reducible repeat (first | refine blk_drewN ?_ _ | refine blk_drew ?_ | refine blk_alloc ?_ _)); exact BK0.out)); rintro e w7 ⟨rfl, hb⟩; (try (have db_ : ∀ {w w' : World}, Drawn0 w w' → Below w.heap.size w w' := (by intro w w' h_; obtain ⟨n_, rfl⟩ := h_; exact pw_below_drewN (Below.refl _ _) _); replace hb := db_ hb; clear db_)); refine ⟨_, rfl, ?_⟩; have n0_ := Aside0.mk (Kd.S_below (by (with_reducible repeat (first | apply Kd.S_alloc | apply Kd.S_drewN | apply Kd.S_drew)); exact HO_6.out) hb); have n1_ := Aside0.mk (blk_below (g := g0_) (o := .cells #[.slice A0_0 l0_0.length c0_0, .slice A0_1 l0_1.length c0_1, .slice A0_2 l0_2.length c0_2, .int .i64 x1003_1, .int .i64 x1004_1] 64 (0, 0)) (by (with_reducible repeat (first | refine blk_drewN ?_ _ | refine blk_drew ?_ | refine blk_alloc ?_ _)); exact BK0.out) hb); have n2_ := Aside0.mk (below_step (by repeat (first | (with_reducible first | exact HB.out | apply below_alloc | apply pw_below_drewN | apply below_drew1 | refine below_set ?_ GE0.out) | exact HB.out)) hb); clear HO_6; clear BK0; clear HB; have HO_6 := n0_; have BK0 := n1_; have HB := n2_; clear n0_ n1_ n2_; (try clear hb); (try clear hb2); (try clear hk); (try clear hi); have hcz8_0 : w7.cell? ⟨g0_, 0, none⟩ = some (.slice A0_0 l0_0.length c0_0) := (blk_cell BK0.out 0).trans rfl; have hcz8_1 : w7.cell? ⟨g0_, 1, none⟩ = some (.slice A0_1 l0_1.length c0_1) := (blk_cell BK0.out 1).trans rfl; have hcz8_2 : w7.cell? ⟨g0_, 2, none⟩ = some (.slice A0_2 l0_2.length c0_2) := (blk_cell BK0.out 2).trans rfl; have hcz8_3 : w7.cell? ⟨g0_, 3, none⟩ = some (.int .i64 x1003_1) := (blk_cell BK0.out 3).trans rfl; have hcz8_4 : w7.cell? ⟨g0_, 4, none⟩ = some (.int .i64 x1004_1) := (blk_cell BK0.out 4).trans rfl; have hfz8_0 := blk_frozen BK0.out 0; have hfz8_1 := blk_frozen BK0.out 1; have hfz8_2 := blk_frozen BK0.out 2; have hfz8_3 := blk_frozen BK0.out 3; have hfz8_4 := blk_frozen BK0.out 4))
    go_ret2
    exact ⟨_, by first | rfl | (simp [errW_none, errW_some] <;> rfl) | (simp [*, errW_none, errW_some] <;> rfl) | (simp [Int.tdiv_eq_ediv_of_nonneg, *]; done), by (with_reducible repeat (first | apply Kd.S_alloc | apply Kd.S_drewN | apply Kd.S_drew)); exact HO_6.out, by repeat (first | (with_reducible first | exact HB.out | apply below_alloc | apply pw_below_drewN | apply below_drew1 | refine below_set ?_ GE0.out) | exact HB.out)⟩
   ·rw [if_neg c6] at H
    have c6b0 : ((wrap64 (x7_1 + t1106)) == (l0_1.length : Int)) = false := beq_eq_false_iff_ne.mpr c6
    have c6b1 : ((wrap64 (x7_1 + t1106)) != (l0_1.length : Int)) = true := bne_iff_ne.mpr c6
    have H' := Aside0.mk H
    clear H
    go_wp2_with (first | ((with_reducible refine gate_callee (f := 109) rfl ?_); refine goesL_ (some 16) rfl rfl Try.func109 (by kernel_rfl) rfl #[.pointer (some ⟨g0_, 0, none⟩), .int .i64 a1, .int .i64 x7_1, .int .i64 0] rfl (by (try simp only [List.map_toArray, List.map_cons, List.map_nil]); first | done | rfl | (simp only [List.length_drop, List.length_take]; rfl)) ?_; (with_reducible refine (spec_l08Range.calls k1 g0_ A0_0 c0_0 l0_0 A0_1 c0_1 l0_1 A0_2 c0_2 l0_2 x1003_1 x1004_1 a1 x7_1 0 t1106 _ ?side1 ?side2 ?side3 ?side4 ?side5 ?side6 ?side7 A5.out).mono ?_); (case side1 => repeat (first | exact (Kd.C_below HR0_0.out HB.out) | (with_reducible refine Kd.C_alloc ?_ _) | (with_reducible refine Kd.C_drewN ?_ _) | (with_reducible refine Kd.C_drew ?_))); (case side2 => exact HC0_0.out); (case side3 => repeat (first | exact (Kd.C_below HR0_1.out HB.out) | (with_reducible refine Kd.C_alloc ?_ _) | (with_reducible refine Kd.C_drewN ?_ _) | (with_reducible refine Kd.C_drew ?_))); (case side4 => exact HC0_1.out); (case side5 => repeat (first | exact (Kd.C_below HR0_2.out HB.out) | (with_reducible refine Kd.C_alloc ?_ _) | (with_reducible refine Kd.C_drewN ?_ _) | (with_reducible refine Kd.C_drew ?_))); (case side6 => exact HC0_2.out); (case side7 => exact (by (with_reducible repeat (first | refine blk_drewN ?_ _ | refine blk_drew ?_ | refine blk_alloc ?_ _)); exact BK0.out)); rintro e w9 ⟨rfl, hb⟩; (try (have db_ : ∀ {w w' : World}, Drawn0 w w' → Below w.heap.size w w' := (by intro w w' h_; obtain ⟨n_, rfl⟩ := h_; exact pw_below_drewN (Below.refl _ _) _); replace hb := db_ hb; clear db_)); refine ⟨_, rfl, ?_⟩; have n0_ := Aside0.mk (Kd.S_below (by (with_reducible repeat (first | apply Kd.S_alloc | apply Kd.S_drewN | apply Kd.S_drew)); exact HO_6.out) hb); have n1_ := Aside0.mk (blk_below (g := g0_) (o := .cells #[.slice A0_0 l0_0.length c0_0, .slice A0_1 l0_1.length c0_1, .slice A0_2 l0_2.length c0_2, .int .i64 x1003_1, .int .i64 x1004_1] 64 (0, 0)) (by (with_reducible repeat (first | refine blk_drewN ?_ _ | refine blk_drew ?_ | refine blk_alloc ?_ _)); exact BK0.out) hb); have n2_ := Aside0.mk (below_step (by repeat (first | (with_reducible first | exact HB.out | apply below_alloc | apply pw_below_drewN | apply below_drew1 | refine below_set ?_ GE0.out) | exact HB.out)) hb); clear HO_6; clear BK0; clear HB; have HO_6 := n0_; have BK0 := n1_; have HB := n2_; clear n0_ n1_ n2_; (try clear hb); (try clear hb2); (try clear hk); (try clear hi); have hcz10_0 : w9.cell? ⟨g0_, 0, none⟩ = some (.slice A0_0 l0_0.length c0_0) := (blk_cell BK0.out 0).trans rfl; have hcz10_1 : w9.cell? ⟨g0_, 1, none⟩ = some (.slice A0_1 l0_1.length c0_1) := (blk_cell BK0.out 1).trans rfl; have hcz10_2 : w9.cell? ⟨g0_, 2, none⟩ = some (.slice A0_2 l0_2.length c0_2) := (blk_cell BK0.out 2).trans rfl; have hcz10_3 : w9.cell? ⟨g0_, 3, none⟩ = some (.int .i64 x1003_1) := (blk_cell BK0.out 3).trans rfl; have hcz10_4 : w9.cell? ⟨g0_, 4, none⟩ = some (.int .i64 x1004_1) := (blk_cell BK0.out 4).trans rfl; have hfz10_0 := blk_frozen BK0.out 0; have hfz10_1 := blk_frozen BK0.out 1; have hfz10_2 := blk_frozen BK0.out 2; have hfz10_3 := blk_frozen BK0.out 3; have hfz10_4 := blk_frozen BK0.out 4))
    go_loopg [9, 10] k1 (fun kq v9 v10 w' => ∃ (x9_2 : Int) (x10_2 : Int), v9 = .int .i64 x9_2 ∧ v10 = .int .i64 x10_2 ∧ Aside0 (spec_l08Needs.l1 kq a1 x6_1 x7_1 (wrap64 (x7_1 + t1106)) x9_2 x10_2 l0_0 l0_1 l0_2 x1003_1 x1004_1 = some (r1, r2)) ∧ Aside0 (kq ≤ k1) ∧ Aside0 (Kd.S (Kd.slice 2 (Kd.int .i64)) 24 w' w.heap.size (fun _ => True) u6 x6_1) ∧ Aside0 (w'.heap[g0_]? = some (.cells #[(.slice A0_0 l0_0.length c0_0), (.slice A0_1 l0_1.length c0_1), (.slice A0_2 l0_2.length c0_2), .int .i64 x1003_1, .int .i64 x1004_1] 64 (0, 0))) ∧ Aside0 (Below w.heap.size w w'))
    case atStart => exact ⟨((-1)), (0), (by first | rfl | (simp; done) | (simp [*]; done) | (simp [Int.tdiv_eq_ediv_of_nonneg, *]; done)), (by first | rfl | (simp; done) | (simp [*]; done) | (simp [Int.tdiv_eq_ediv_of_nonneg, *]; done)), H', ⟨Nat.le_refl _⟩, ⟨by (with_reducible repeat (first | apply Kd.S_alloc | apply Kd.S_drewN | apply Kd.S_drew)); exact HO_6.out⟩, ⟨by (with_reducible repeat (first | refine blk_drewN ?_ _ | refine blk_drew ?_ | refine blk_alloc ?_ _)); exact BK0.out⟩, ⟨by repeat (first | (with_reducible first | exact HB.out | apply below_alloc | apply pw_below_drewN | apply below_drew1 | refine below_set ?_ GE0.out) | exact HB.out)⟩⟩
    case round =>
     clear H'
     try clear c1
     try clear p2
     try clear c6
     try clear c6b0
     try clear c6b1
     try clear p6
     try clear c10
     try clear hcz10_0
     try clear hcz10_1
     try clear hcz10_2
     try clear hcz10_3
     try clear hcz10_4
     try clear hcz8_0
     try clear hcz8_1
     try clear hcz8_2
     try clear hcz8_3
     try clear hcz8_4
     try clear hfz10_0
     try clear hfz10_1
     try clear hfz10_2
     try clear hfz10_3
     try clear hfz10_4
     try clear hfz8_0
     try clear hfz8_1
     try clear hfz8_2
     try clear hfz8_3
     try clear hfz8_4
     try clear p2
     obtain ⟨x9_2, x10_2, rfl, rfl, HA, HK2, HO_6, BK0, HB⟩ := hrel
     cases gk with
     | zero => exact absurd HA.out (by simp [spec_l08Needs.l1])
     | succ k2 =>
      have H := HA.out
      clear HA
      simp only [spec_l08Needs.l1] at H
      by_cases c11 : x10_2 < (l0_2.length : Int)
      ·rw [if_pos c11] at H
       have c11b0 : decide (x10_2 < (l0_2.length : Int)) = true := decide_eq_true c11
       clear c11
       by_cases c12 : 0 ≤ x10_2
       ·rw [if_pos c12] at H
        have c12b0 : decide (0 ≤ x10_2) = true := decide_eq_true c12
        clear c12
        by_cases c13 : (rd l0_2 x10_2) > x7_1
        ·rw [if_pos c13] at H
         have c13b0 : decide (x7_1 < (rd l0_2 x10_2)) = true := decide_eq_true c13
         clear c13
         by_cases c14 : (rd l0_2 x10_2) ≤ (wrap64 (x7_1 + t1106))
         ·rw [if_pos c14] at H
          have c14b0 : decide ((rd l0_2 x10_2) ≤ (wrap64 (x7_1 + t1106))) = true := decide_eq_true c14
          clear c14
          have H' := Aside0.mk H
          clear H
          have hcz15_0 : wr.cell? ⟨g0_, 0, none⟩ = some (.slice A0_0 l0_0.length c0_0) := (blk_cell BK0.out 0).trans rfl
          have hcz15_1 : wr.cell? ⟨g0_, 1, none⟩ = some (.slice A0_1 l0_1.length c0_1) := (blk_cell BK0.out 1).trans rfl
          have hcz15_2 : wr.cell? ⟨g0_, 2, none⟩ = some (.slice A0_2 l0_2.length c0_2) := (blk_cell BK0.out 2).trans rfl
          have hcz15_3 : wr.cell? ⟨g0_, 3, none⟩ = some (.int .i64 x1003_1) := (blk_cell BK0.out 3).trans rfl
          have hcz15_4 : wr.cell? ⟨g0_, 4, none⟩ = some (.int .i64 x1004_1) := (blk_cell BK0.out 4).trans rfl
          have hfz15_0 := blk_frozen BK0.out 0
          have hfz15_1 := blk_frozen BK0.out 1
          have hfz15_2 := blk_frozen BK0.out 2
          have hfz15_3 := blk_frozen BK0.out 3
          have hfz15_4 := blk_frozen BK0.out 4
          have p1107 : 0 ≤ (x10_2 : Int) := of_decide_eq_true (by first | (with_reducible assumption) | assumption)
          have q1107 : x10_2 < (l0_2.length : Int) := of_decide_eq_true (by first | (with_reducible assumption) | assumption)
          obtain ⟨ad1107, e1107, hx1107_0⟩ := Kd.at_int HR0_2.out x10_2 p1107 q1107
          cases e1107
          replace hx1107_0 := (HB.out.cell (World.block_lt_of_cell? w _ hx1107_0)).trans hx1107_0
          replace p1107 := eq_true p1107
          replace q1107 := eq_true q1107
          have p1108 : 0 ≤ (x10_2 : Int) := of_decide_eq_true (by first | (with_reducible assumption) | assumption)
          have q1108 : x10_2 < (l0_2.length : Int) := of_decide_eq_true (by first | (with_reducible assumption) | assumption)
          obtain ⟨ad1108, e1108, hx1108_0⟩ := Kd.at_int HR0_2.out x10_2 p1108 q1108
          obtain rfl : ad1107 = ad1108 := (by injection e1108)
          replace hx1108_0 := (HB.out.cell (World.block_lt_of_cell? w _ hx1108_0)).trans hx1108_0
          replace p1108 := eq_true p1108
          replace q1108 := eq_true q1108
          have p1109 : 0 ≤ (x10_2 : Int) := of_decide_eq_true (by first | (with_reducible assumption) | assumption)
          have q1109 : x10_2 < (l0_2.length : Int) := of_decide_eq_true (by first | (with_reducible assumption) | assumption)
          obtain ⟨ad1109, e1109, hx1109_0⟩ := Kd.at_int HR0_2.out x10_2 p1109 q1109
          obtain rfl : ad1107 = ad1109 := (by injection e1109)
          replace hx1109_0 := (HB.out.cell (World.block_lt_of_cell? w _ hx1109_0)).trans hx1109_0
          replace p1109 := eq_true p1109
          replace q1109 := eq_true q1109
          go_wp2
          go_roundg k2
          case measure => have := HK1.out; have := HK2.out; omega
          case rel => exact ⟨(rd l0_2 x10_2), (wrap64 (x10_2 + 1)), (by first | rfl | (simp; done) | (simp [*]; done) | (simp [Int.tdiv_eq_ediv_of_nonneg, *]; done)), (by first | rfl | (simp; done) | (simp [*]; done) | (simp [Int.tdiv_eq_ediv_of_nonneg, *]; done)), H', ⟨by have := HK1.out; have := HK2.out; omega⟩, ⟨by (with_reducible repeat (first | apply Kd.S_alloc | apply Kd.S_drewN | apply Kd.S_drew)); exact HO_6.out⟩, ⟨by (with_reducible repeat (first | refine blk_drewN ?_ _ | refine blk_drew ?_ | refine blk_alloc ?_ _)); exact BK0.out⟩, ⟨by repeat (first | (with_reducible first | exact HB.out | apply below_alloc | apply pw_below_drewN | apply below_drew1 | refine below_set ?_ GE0.out) | exact HB.out)⟩⟩
         ·rw [if_neg c14] at H
          have c14b0 : decide ((rd l0_2 x10_2) ≤ (wrap64 (x7_1 + t1106))) = false := decide_eq_false c14
          clear c14
          have H' := Aside0.mk H
          clear H
          have hcz16_0 : wr.cell? ⟨g0_, 0, none⟩ = some (.slice A0_0 l0_0.length c0_0) := (blk_cell BK0.out 0).trans rfl
          have hcz16_1 : wr.cell? ⟨g0_, 1, none⟩ = some (.slice A0_1 l0_1.length c0_1) := (blk_cell BK0.out 1).trans rfl
          have hcz16_2 : wr.cell? ⟨g0_, 2, none⟩ = some (.slice A0_2 l0_2.length c0_2) := (blk_cell BK0.out 2).trans rfl
          have hcz16_3 : wr.cell? ⟨g0_, 3, none⟩ = some (.int .i64 x1003_1) := (blk_cell BK0.out 3).trans rfl
          have hcz16_4 : wr.cell? ⟨g0_, 4, none⟩ = some (.int .i64 x1004_1) := (blk_cell BK0.out 4).trans rfl
          have hfz16_0 := blk_frozen BK0.out 0
          have hfz16_1 := blk_frozen BK0.out 1
          have hfz16_2 := blk_frozen BK0.out 2
          have hfz16_3 := blk_frozen BK0.out 3
          have hfz16_4 := blk_frozen BK0.out 4
          have p1107 : 0 ≤ (x10_2 : Int) := of_decide_eq_true (by first | (with_reducible assumption) | assumption)
          have q1107 : x10_2 < (l0_2.length : Int) := of_decide_eq_true (by first | (with_reducible assumption) | assumption)
          obtain ⟨ad1107, e1107, hx1107_0⟩ := Kd.at_int HR0_2.out x10_2 p1107 q1107
          cases e1107
          replace hx1107_0 := (HB.out.cell (World.block_lt_of_cell? w _ hx1107_0)).trans hx1107_0
          replace p1107 := eq_true p1107
          replace q1107 := eq_true q1107
          have p1108 : 0 ≤ (x10_2 : Int) := of_decide_eq_true (by first | (with_reducible assumption) | assumption)
          have q1108 : x10_2 < (l0_2.length : Int) := of_decide_eq_true (by first | (with_reducible assumption) | assumption)
          obtain ⟨ad1108, e1108, hx1108_0⟩ := Kd.at_int HR0_2.out x10_2 p1108 q1108
          obtain rfl : ad1107 = ad1108 := (by injection e1108)
          replace hx1108_0 := (HB.out.cell (World.block_lt_of_cell? w _ hx1108_0)).trans hx1108_0
          replace p1108 := eq_true p1108
          replace q1108 := eq_true q1108
          go_wp2
          go_roundg k2
          case measure => have := HK1.out; have := HK2.out; omega
          case rel => exact ⟨(x9_2), (wrap64 (x10_2 + 1)), (by first | rfl | (simp; done) | (simp [*]; done) | (simp [Int.tdiv_eq_ediv_of_nonneg, *]; done)), (by first | rfl | (simp; done) | (simp [*]; done) | (simp [Int.tdiv_eq_ediv_of_nonneg, *]; done)), H', ⟨by have := HK1.out; have := HK2.out; omega⟩, ⟨by (with_reducible repeat (first | apply Kd.S_alloc | apply Kd.S_drewN | apply Kd.S_drew)); exact HO_6.out⟩, ⟨by (with_reducible repeat (first | refine blk_drewN ?_ _ | refine blk_drew ?_ | refine blk_alloc ?_ _)); exact BK0.out⟩, ⟨by repeat (first | (with_reducible first | exact HB.out | apply below_alloc | apply pw_below_drewN | apply below_drew1 | refine below_set ?_ GE0.out) | exact HB.out)⟩⟩
        ·rw [if_neg c13] at H
         have c13b0 : decide (x7_1 < (rd l0_2 x10_2)) = false := decide_eq_false c13
         clear c13
         have H' := Aside0.mk H
         clear H
         have hcz17_0 : wr.cell? ⟨g0_, 0, none⟩ = some (.slice A0_0 l0_0.length c0_0) := (blk_cell BK0.out 0).trans rfl
         have hcz17_1 : wr.cell? ⟨g0_, 1, none⟩ = some (.slice A0_1 l0_1.length c0_1) := (blk_cell BK0.out 1).trans rfl
         have hcz17_2 : wr.cell? ⟨g0_, 2, none⟩ = some (.slice A0_2 l0_2.length c0_2) := (blk_cell BK0.out 2).trans rfl
         have hcz17_3 : wr.cell? ⟨g0_, 3, none⟩ = some (.int .i64 x1003_1) := (blk_cell BK0.out 3).trans rfl
         have hcz17_4 : wr.cell? ⟨g0_, 4, none⟩ = some (.int .i64 x1004_1) := (blk_cell BK0.out 4).trans rfl
         have hfz17_0 := blk_frozen BK0.out 0
         have hfz17_1 := blk_frozen BK0.out 1
         have hfz17_2 := blk_frozen BK0.out 2
         have hfz17_3 := blk_frozen BK0.out 3
         have hfz17_4 := blk_frozen BK0.out 4
         have p1107 : 0 ≤ (x10_2 : Int) := of_decide_eq_true (by first | (with_reducible assumption) | assumption)
         have q1107 : x10_2 < (l0_2.length : Int) := of_decide_eq_true (by first | (with_reducible assumption) | assumption)
         obtain ⟨ad1107, e1107, hx1107_0⟩ := Kd.at_int HR0_2.out x10_2 p1107 q1107
         cases e1107
         replace hx1107_0 := (HB.out.cell (World.block_lt_of_cell? w _ hx1107_0)).trans hx1107_0
         replace p1107 := eq_true p1107
         replace q1107 := eq_true q1107
         go_wp2
         go_roundg k2
         case measure => have := HK1.out; have := HK2.out; omega
         case rel => exact ⟨(x9_2), (wrap64 (x10_2 + 1)), (by first | rfl | (simp; done) | (simp [*]; done) | (simp [Int.tdiv_eq_ediv_of_nonneg, *]; done)), (by first | rfl | (simp; done) | (simp [*]; done) | (simp [Int.tdiv_eq_ediv_of_nonneg, *]; done)), H', ⟨by have := HK1.out; have := HK2.out; omega⟩, ⟨by (with_reducible repeat (first | apply Kd.S_alloc | apply Kd.S_drewN | apply Kd.S_drew)); exact HO_6.out⟩, ⟨by (with_reducible repeat (first | refine blk_drewN ?_ _ | refine blk_drew ?_ | refine blk_alloc ?_ _)); exact BK0.out⟩, ⟨by repeat (first | (with_reducible first | exact HB.out | apply below_alloc | apply pw_below_drewN | apply below_drew1 | refine below_set ?_ GE0.out) | exact HB.out)⟩⟩
       ·rw [if_neg c12] at H
        exact absurd H (by simp)
      ·rw [if_neg c11] at H
       have c11b0 : decide (x10_2 < (l0_2.length : Int)) = false := decide_eq_false c11
       clear c11
       by_cases c18 : x9_2 < 0
       ·rw [if_pos c18] at H
        have c18b0 : decide (x9_2 < 0) = true := decide_eq_true c18
        clear c18
        obtain ⟨y1110, hy1110⟩ : ∃ y_ : List (List Int), y_ = (([] : List (List Int))) := ⟨_, rfl⟩
        replace H : (some (y1110, false)) = some (r1, r2) := by first | (rw [hy1110]; with_reducible exact H) | (have H2_ := (Option.bind_some _ _).symm.trans H; rw [hy1110]; with_reducible exact H2_) | (have H2_ := (Option.bind_some _ _).symm.trans H; with_reducible exact H2_) | with_reducible exact H | (rw [hy1110]; exact H) | exact H
        have Ny1110 := Aside0.mk hy1110
        clear hy1110
        simp only [Option.some.injEq, Prod.mk.injEq] at H
        obtain ⟨rfl, rfl⟩ := H
        have hcz19_0 : wr.cell? ⟨g0_, 0, none⟩ = some (.slice A0_0 l0_0.length c0_0) := (blk_cell BK0.out 0).trans rfl
        have hcz19_1 : wr.cell? ⟨g0_, 1, none⟩ = some (.slice A0_1 l0_1.length c0_1) := (blk_cell BK0.out 1).trans rfl
        have hcz19_2 : wr.cell? ⟨g0_, 2, none⟩ = some (.slice A0_2 l0_2.length c0_2) := (blk_cell BK0.out 2).trans rfl
        have hcz19_3 : wr.cell? ⟨g0_, 3, none⟩ = some (.int .i64 x1003_1) := (blk_cell BK0.out 3).trans rfl
        have hcz19_4 : wr.cell? ⟨g0_, 4, none⟩ = some (.int .i64 x1004_1) := (blk_cell BK0.out 4).trans rfl
        have hfz19_0 := blk_frozen BK0.out 0
        have hfz19_1 := blk_frozen BK0.out 1
        have hfz19_2 := blk_frozen BK0.out 2
        have hfz19_3 := blk_frozen BK0.out 3
        have hfz19_4 := blk_frozen BK0.out 4
        go_wp2_with (first | ((with_reducible refine gate_dst (N := 64) rfl ?_); refine Kd.S_lit (Kd.slice 2 (Kd.int .i64)) _ 24 ?hg (N := 64) ?hd (xs := ([] : List (List Int))) (inner := []) (ok := fun _ => True) (okp := fun _ => True) ?hr ?hp (fun _ hk => hk) trivial (Below.refl _ _) (Nat.le_refl _) (by simp) ?_; (case hd => rfl); (case hg => rfl); (case hr => first | (go_simp; done) | (go_simp; rfl)); (case hp => exact (Reps.none _ _)); intro v1111 w20 ho21 hb hg_ hnew_; clear hg_ hnew_; (first | rw [← Ny1110.out] at ho21 | (simp only [Int.reduceToNat] at ho21; rw [← Ny1110.out] at ho21)); have n0_ := Aside0.mk (Kd.S_elder' (by (with_reducible repeat (first | apply Kd.S_alloc | apply Kd.S_drewN | apply Kd.S_drew)); exact HO_6.out) (Kd.S_base ho21) hb); have n1_ := Aside0.mk (Kd.S_lower (Kd.S_new' ho21 (Kd.S_lt (by (with_reducible repeat (first | apply Kd.S_alloc | apply Kd.S_drewN | apply Kd.S_drew)); exact HO_6.out))) (below_size (by repeat (first | (with_reducible first | exact HB.out | apply below_alloc | apply pw_below_drewN | apply below_drew1 | refine below_set ?_ GE0.out) | exact HB.out)))); have n2_ := Aside0.mk (blk_below (g := g0_) (o := .cells #[.slice A0_0 l0_0.length c0_0, .slice A0_1 l0_1.length c0_1, .slice A0_2 l0_2.length c0_2, .int .i64 x1003_1, .int .i64 x1004_1] 64 (0, 0)) (by (with_reducible repeat (first | refine blk_drewN ?_ _ | refine blk_drew ?_ | refine blk_alloc ?_ _)); exact BK0.out) hb); have n3_ := Aside0.mk (below_step (by repeat (first | (with_reducible first | exact HB.out | apply below_alloc | apply pw_below_drewN | apply below_drew1 | refine below_set ?_ GE0.out) | exact HB.out)) hb); clear HO_6; clear BK0; clear HB; have HO_6 := n0_; have HO1112 := n1_; have BK0 := n2_; have HB := n3_; clear n0_ n1_ n2_ n3_; clear hb ho21))
        go_ret2
        exact ⟨_, by first | rfl | (simp [errW_none, errW_some] <;> rfl) | (simp [*, errW_none, errW_some] <;> rfl) | (simp [Int.tdiv_eq_ediv_of_nonneg, *]; done), by (with_reducible repeat (first | apply Kd.S_alloc | apply Kd.S_drewN | apply Kd.S_drew)); exact Kd.S_mono HO1112.out (fun _ hk => trivial), by repeat (first | (with_reducible first | exact HB.out | apply below_alloc | apply pw_below_drewN | apply below_drew1 | refine below_set ?_ GE0.out) | exact HB.out)⟩
       ·rw [if_neg c18] at H
        have c18b0 : decide (x9_2 < 0) = false := decide_eq_false c18
        clear c18
        obtain ⟨y1113, hy1113⟩ : ∃ y_ : List Int, y_ = (([x7_1, (wrap64 (x7_1 + t1106))] : List Int)) := ⟨_, rfl⟩
        replace H : (if x6_1.length < 5864062014805 then (spec_l08Needs.l0 k2 a1 (x6_1 ++ [y1113]) x9_2 l0_0 l0_1 l0_2 x1003_1 x1004_1) else (none)) = some (r1, r2) := by first | (rw [hy1113]; with_reducible exact H) | (have H2_ := (Option.bind_some _ _).symm.trans H; rw [hy1113]; with_reducible exact H2_) | (have H2_ := (Option.bind_some _ _).symm.trans H; with_reducible exact H2_) | with_reducible exact H | (rw [hy1113]; exact H) | exact H
        have Ny1113 := Aside0.mk hy1113
        clear hy1113
        by_cases c22 : x6_1.length < 5864062014805
        ·rw [if_pos c22] at H
         have LMc22 := Aside0.mk c22
         clear c22
         obtain ⟨y1116, hy1116⟩ : ∃ y_ : List (List Int), y_ = (x6_1 ++ [y1113]) := ⟨_, rfl⟩
         replace H : (spec_l08Needs.l0 k2 a1 y1116 x9_2 l0_0 l0_1 l0_2 x1003_1 x1004_1) = some (r1, r2) := by first | (rw [hy1116]; with_reducible exact H) | (have H2_ := (Option.bind_some _ _).symm.trans H; rw [hy1116]; with_reducible exact H2_) | (have H2_ := (Option.bind_some _ _).symm.trans H; with_reducible exact H2_) | with_reducible exact H | (rw [hy1116]; exact H) | exact H
         have Ny1116 := Aside0.mk hy1116
         clear hy1116
         have H' := Aside0.mk H
         clear H
         have hcz23_0 : wr.cell? ⟨g0_, 0, none⟩ = some (.slice A0_0 l0_0.length c0_0) := (blk_cell BK0.out 0).trans rfl
         have hcz23_1 : wr.cell? ⟨g0_, 1, none⟩ = some (.slice A0_1 l0_1.length c0_1) := (blk_cell BK0.out 1).trans rfl
         have hcz23_2 : wr.cell? ⟨g0_, 2, none⟩ = some (.slice A0_2 l0_2.length c0_2) := (blk_cell BK0.out 2).trans rfl
         have hcz23_3 : wr.cell? ⟨g0_, 3, none⟩ = some (.int .i64 x1003_1) := (blk_cell BK0.out 3).trans rfl
         have hcz23_4 : wr.cell? ⟨g0_, 4, none⟩ = some (.int .i64 x1004_1) := (blk_cell BK0.out 4).trans rfl
         have hfz23_0 := blk_frozen BK0.out 0
         have hfz23_1 := blk_frozen BK0.out 1
         have hfz23_2 := blk_frozen BK0.out 2
         have hfz23_3 := blk_frozen BK0.out 3
         have hfz23_4 := blk_frozen BK0.out 4
         go_wp2_with (first | ((with_reducible refine gate_dst (N := 68) rfl ?_); refine Kd.R_lit (Kd.int .i64) _ 2 ?hg (N := 68) ?hd (xs := ([x7_1, (wrap64 (x7_1 + t1106))] : List Int)) (inner := [.int .i64 x7_1, .int .i64 (wrap64 (x7_1 + t1106))]) (ok := fun _ => True) (okp := fun _ => True) ?hr ?hp (fun _ hk => hk) trivial (Below.refl _ _) (Nat.le_refl _) (by simp) ?_; (case hd => rfl); (case hg => rfl); (case hr => first | (go_simp; done) | (go_simp; rfl)); (case hp => exact (Reps.one (show Kd.M (Kd.int .i64) _ _ _ x7_1 [.int .i64 x7_1] from rfl) (Reps.one (show Kd.M (Kd.int .i64) _ _ _ (wrap64 (x7_1 + t1106)) [.int .i64 (wrap64 (x7_1 + t1106))] from rfl) (Reps.none _ _)))); intro v1114 w24 ho25 hb hg_ hnew_; clear hg_ hnew_; (first | rw [← Ny1113.out] at ho25 | (simp only [Int.reduceToNat] at ho25; rw [← Ny1113.out] at ho25)); have n0_ := Aside0.mk (Kd.S_elder' (by (with_reducible repeat (first | apply Kd.S_alloc | apply Kd.S_drewN | apply Kd.S_drew)); exact HO_6.out) (Kd.R_base ho25) hb); have n1_ := Aside0.mk (Kd.R_lower ho25 (below_size (by repeat (first | (with_reducible first | exact HB.out | apply below_alloc | apply pw_below_drewN | apply below_drew1 | refine below_set ?_ GE0.out) | exact HB.out)))); have n2_ := Aside0.mk (blk_below (g := g0_) (o := .cells #[.slice A0_0 l0_0.length c0_0, .slice A0_1 l0_1.length c0_1, .slice A0_2 l0_2.length c0_2, .int .i64 x1003_1, .int .i64 x1004_1] 64 (0, 0)) (by (with_reducible repeat (first | refine blk_drewN ?_ _ | refine blk_drew ?_ | refine blk_alloc ?_ _)); exact BK0.out) hb); have n3_ := Aside0.mk (below_step (by repeat (first | (with_reducible first | exact HB.out | apply below_alloc | apply pw_below_drewN | apply below_drew1 | refine below_set ?_ GE0.out) | exact HB.out)) hb); clear HO_6; clear BK0; clear HB; have HO_6 := n0_; have HO1115 := n1_; have BK0 := n2_; have HB := n3_; clear n0_ n1_ n2_ n3_; clear hb ho25; obtain ⟨Ao27, co27, eo27⟩ := Kd.R_slice HO1115.out; subst eo27) | ((with_reducible refine gate_builtin (b := .append) (xs := #[.tmp 65, .tmp 69]) rfl ?_); at_builtin; refine Kd.S_append (Kd.slice 2 (Kd.int .i64)) (w0 := w) w.heap.size rfl (.tmp 65) (.tmp 69) 31 24 (.slice none 0 0) 24 rfl Try.underlying31 info24 rfl (by decide) (by omega) u6 x6_1 y1113 [.slice Ao27 y1113.length co27] (fun _ => True) (fun k_ => some k_ = (.slice Ao27 y1113.length co27 : Value).ownBlock) rfl rfl ?aP (fun k_ hk_ => ((Kd.R_mono (ok' := fun k_ => ((fun _ => True)) k_ ∧ some k_ ≠ (u6 : Value).ownBlock) (Kd.R_apart' (HO1115.out) (Kd.S_typed HO_6.out) (by decide)) (fun k_ hk => ⟨trivial, hk.2⟩))).1 k_ hk_.symm) ?aF ?aO ?aB ?aS ?aL ?_; (case aP => exact Kd.M_row (Kd.R_mono (Kd.R_tight rfl (Kd.R_mono (ok' := fun k_ => ((fun _ => True)) k_ ∧ some k_ ≠ (u6 : Value).ownBlock) (Kd.R_apart' (HO1115.out) (Kd.S_typed HO_6.out) (by decide)) (fun k_ hk => ⟨trivial, hk.2⟩))) (fun _ h_ => h_))); (case aB => exact (by repeat (first | (with_reducible first | exact HB.out | apply below_alloc | apply pw_below_drewN | apply below_drew1 | refine below_set ?_ GE0.out) | exact HB.out))); (case aF => exact (fun _ _ => trivial)); (case aO => exact (by (with_reducible repeat (first | apply Kd.S_alloc | apply Kd.S_drewN | apply Kd.S_drew)); exact Kd.S_mono HO_6.out (fun k_ hk => ⟨trivial, fun e_ => hk.2 e_⟩))); (case aS => exact (below_size (by repeat (first | (with_reducible first | exact HB.out | apply below_alloc | apply pw_below_drewN | apply below_drew1 | refine below_set ?_ GE0.out) | exact HB.out)))); (case aL => have := LMc22.out; omega); intro v1117 w26 ho hb hg hat; rw [← Ny1116.out] at ho; have n0_ := Aside0.mk (blk_grown (g := g0_) (o := .cells #[.slice A0_0 l0_0.length c0_0, .slice A0_1 l0_1.length c0_1, .slice A0_2 l0_2.length c0_2, .int .i64 x1003_1, .int .i64 x1004_1] 64 (0, 0)) (by (with_reducible repeat (first | refine blk_drewN ?_ _ | refine blk_drew ?_ | refine blk_alloc ?_ _)); exact BK0.out) hg (Kd.S_ne HO_6.out BK0.out (by decide))); have n1_ := Aside0.mk (hb); have n2_ := Aside0.mk (ho); clear BK0; clear HB; clear HO_6; clear HO1115; have BK0 := n0_; have HB := n1_; have HO1118 := n2_; clear n0_ n1_ n2_; clear ho hb hg hat))
         go_roundg k2
         case measure => have := HK1.out; have := HK2.out; omega
         case rel => exact ⟨(y1116), (x9_2), (x1003_1), (x1004_1), (by first | rfl | (simp; done) | (simp [*]; done) | (simp [Int.tdiv_eq_ediv_of_nonneg, *]; done)), H', ⟨by have := HK1.out; have := HK2.out; omega⟩, ⟨by (with_reducible repeat (first | apply Kd.S_alloc | apply Kd.S_drewN | apply Kd.S_drew)); exact HO1118.out⟩, ⟨by (with_reducible repeat (first | refine blk_drewN ?_ _ | refine blk_drew ?_ | refine blk_alloc ?_ _)); exact BK0.out⟩, ⟨by repeat (first | (with_reducible first | exact HB.out | apply below_alloc | apply pw_below_drewN | apply below_drew1 | refine below_set ?_ GE0.out) | exact HB.out)⟩⟩
        ·rw [if_neg c22] at H
         exact absurd H (by simp)

def spec_BoundOf.l0 : Nat → Int → Int → Int → List (S79) → List Int → List Int → Int → Int → Option (Int × Bool)
 | 0, _, _, _, _, _, _, _, _ => none
 | k + 1, x4, x5, x6, x1120000, x1120001, x1120002, x1120003, x1120004 => if x6 < (x1120000.length : Int) then ((spec_l08Needs.f k x1120000 x1120001 x1120002 x1120003 x1120004 x6).bind fun bt1121 => (if bt1121.2 = true then ((spec_l00Max.f x5 (bt1121.1.length : Int)).bind fun t1125 => (spec_BoundOf.l0 k (wrap64 (x4 + (wrap64 (x1120004 * (bt1121.1.length : Int))))) t1125 (wrap64 (x6 + 1)) x1120000 x1120001 x1120002 x1120003 x1120004)) else (some (0, false)))) else (some (wrap64 (x4 + (wrap64 (x1120003 * x5))), true))
def spec_BoundOf.f (k : Nat) (l0_0 : List (S79)) (l0_1 : List Int) (l0_2 : List Int) (a0_3 : Int) (a0_4 : Int) : Option (Int × Bool) := (spec_l08Is.f k l0_0 l0_1 l0_2 a0_3 a0_4).bind fun t1120 => (if t1120 = true then (spec_BoundOf.l0 k 0 0 0 l0_0 l0_1 l0_2 a0_3 a0_4) else (some (0, false)))
set_option maxHeartbeats 8000000 in
set_option maxRecDepth 100000 in
theorem spec_BoundOf.calls (k : Nat) (A0_0 : Option Addr) (c0_0 : Nat) (l0_0 : List (S79)) (A0_1 : Option Addr) (c0_1 : Nat) (l0_1 : List Int) (A0_2 : Option Addr) (c0_2 : Nat) (l0_2 : List Int) (a0_3 : Int) (a0_4 : Int) (r1 : Int) (r2 : Bool) (w : World) (hr0_0 : Kd.C k79 w A0_0 l0_0.length l0_0) (hc0_0 : l0_0.length ≤ c0_0) (hr0_1 : Kd.C (Kd.int .i64) w A0_1 l0_1.length l0_1) (hc0_1 : l0_1.length ≤ c0_1) (hr0_2 : Kd.C (Kd.int .i64) w A0_2 l0_2.length l0_2) (hc0_2 : l0_2.length ≤ c0_2) (h : spec_BoundOf.f k l0_0 l0_1 l0_2 a0_3 a0_4 = some (r1, r2)) :
  Calls Try.prog 69 #[.agg #[.slice A0_0 l0_0.length c0_0, .slice A0_1 l0_1.length c0_1, .slice A0_2 l0_2.length c0_2, .int .i64 a0_3, .int .i64 a0_4]] w fun e w' => e = .returned (.tuple #[.int .i64 r1, .bool r2]) ∧ Below w.heap.size w w' := by
 have hu64 := Try.underlying64
 have HR0_0 := Aside0.mk hr0_0
 have HC0_0 := Aside0.mk hc0_0
 clear hr0_0 hc0_0
 have HR0_1 := Aside0.mk hr0_1
 have HC0_1 := Aside0.mk hc0_1
 clear hr0_1 hc0_1
 have HR0_2 := Aside0.mk hr0_2
 have HC0_2 := Aside0.mk hc0_2
 clear hr0_2 hc0_2
 have HB := Aside0.mk (Below.refl w.heap.size w)
 have H : ((spec_l08Is.f k l0_0 l0_1 l0_2 a0_3 a0_4).bind fun t1120 => (if t1120 = true then (spec_BoundOf.l0 k 0 0 0 l0_0 l0_1 l0_2 a0_3 a0_4) else (some (0, false)))) = some (r1, r2) := h
 clear h
 replace H := Option.bind_eq_some_iff.mp H
 obtain ⟨t1120, A20, H⟩ := H
 replace H : (if t1120 = true then (spec_BoundOf.l0 k 0 0 0 l0_0 l0_1 l0_2 a0_3 a0_4) else (some (0, false))) = some (r1, r2) := H
 have A2 := Aside0.mk A20
 clear A20
 by_cases c3 : t1120 = true
 ·subst c3
  have H1 : (spec_BoundOf.l0 k 0 0 0 l0_0 l0_1 l0_2 a0_3 a0_4) = some (r1, r2) := by rw [if_pos rfl] at H; exact H
  clear H
  have H := H1
  clear H1
  have H' := Aside0.mk H
  clear H
  go_enter Try.func69, Try.ntmps69
  go_wp2_with (first | ((with_reducible refine gate_dst (N := 1) rfl ?_); refine box_event ?hg (N := 1) ?hd (cs := #[.slice A0_0 l0_0.length c0_0, .slice A0_1 l0_1.length c0_1, .slice A0_2 l0_2.length c0_2, .int .i64 a0_3, .int .i64 a0_4]) (t := 64) ?hr ?_; (case hd => rfl); (case hg => rfl); (case hr => first | (go_simp; done) | (go_simp; rfl)); intro gb1119 hg w4 hbox hb; have n0_ := Aside0.mk (below_step (by repeat (first | (with_reducible first | exact HB.out | apply below_alloc | apply pw_below_drewN | apply below_drew1) | exact HB.out)) hb); have n1_ := Aside0.mk (hbox); have n2_ := Aside0.mk ((by rw [hg]; exact (below_size (by repeat (first | (with_reducible first | exact HB.out | apply below_alloc | apply pw_below_drewN | apply below_drew1) | exact HB.out))) : w.heap.size ≤ gb1119)); have n3_ := Aside0.mk ((by rw [hg]; exact (below_size (by repeat (first | (with_reducible first | exact HB.out | apply below_alloc | apply pw_below_drewN | apply below_drew1) | exact HB.out))) : w.heap.size ≤ gb1119)); clear HB; have HB := n0_; have BK1119 := n1_; have GW1119 := n2_; have GE1119 := n3_; clear n0_ n1_ n2_ n3_; clear hb hbox hg) | ((with_reducible refine gate_callee (f := 93) rfl ?_); refine goesL_ (some 9) rfl rfl Try.func93 (by kernel_rfl) rfl #[.pointer (some ⟨gb1119, 0, none⟩)] rfl (by (try simp only [List.map_toArray, List.map_cons, List.map_nil]); first | done | rfl | (simp only [List.length_drop, List.length_take]; rfl)) ?_; (with_reducible refine (spec_l08Is.calls k gb1119 A0_0 c0_0 l0_0 A0_1 c0_1 l0_1 A0_2 c0_2 l0_2 a0_3 a0_4 true _ ?side1 ?side2 ?side3 ?side4 ?side5 ?side6 ?side7 A2.out).mono ?_); (case side1 => repeat (first | exact (Kd.C_below HR0_0.out HB.out) | (with_reducible refine Kd.C_alloc ?_ _) | (with_reducible refine Kd.C_drewN ?_ _) | (with_reducible refine Kd.C_drew ?_))); (case side2 => exact HC0_0.out); (case side3 => repeat (first | exact (Kd.C_below HR0_1.out HB.out) | (with_reducible refine Kd.C_alloc ?_ _) | (with_reducible refine Kd.C_drewN ?_ _) | (with_reducible refine Kd.C_drew ?_))); (case side4 => exact HC0_1.out); (case side5 => repeat (first | exact (Kd.C_below HR0_2.out HB.out) | (with_reducible refine Kd.C_alloc ?_ _) | (with_reducible refine Kd.C_drewN ?_ _) | (with_reducible refine Kd.C_drew ?_))); (case side6 => exact HC0_2.out); (case side7 => exact (by (with_reducible repeat (first | refine blk_drewN ?_ _ | refine blk_drew ?_ | refine blk_alloc ?_ _)); exact BK1119.out)); rintro e w5 ⟨rfl, hb⟩; (try (have db_ : ∀ {w w' : World}, Drawn0 w w' → Below w.heap.size w w' := (by intro w w' h_; obtain ⟨n_, rfl⟩ := h_; exact pw_below_drewN (Below.refl _ _) _); replace hb := db_ hb; clear db_)); refine ⟨_, rfl, ?_⟩; have n0_ := Aside0.mk (blk_below (g := gb1119) (o := .cells #[.slice A0_0 l0_0.length c0_0, .slice A0_1 l0_1.length c0_1, .slice A0_2 l0_2.length c0_2, .int .i64 a0_3, .int .i64 a0_4] 64 (0, 0)) (by (with_reducible repeat (first | refine blk_drewN ?_ _ | refine blk_drew ?_ | refine blk_alloc ?_ _)); exact BK1119.out) hb); have n1_ := Aside0.mk (below_step (by repeat (first | (with_reducible first | exact HB.out | apply below_alloc | apply pw_below_drewN | apply below_drew1 | refine below_set ?_ GE1119.out) | exact HB.out)) hb); clear BK1119; clear HB; have BK1119 := n0_; have HB := n1_; clear n0_ n1_; (try clear hb); (try clear hb2); (try clear hk); (try clear hi)))
  go_loopg [4, 5, 6] k (fun kq v4 v5 v6 w' => ∃ (x4_1 : Int) (x5_1 : Int) (x6_1 : Int) (x1120003_1 : Int) (x1120004_1 : Int), v4 = .int .i64 x4_1 ∧ v5 = .int .i64 x5_1 ∧ v6 = .int .i64 x6_1 ∧ Aside0 (spec_BoundOf.l0 kq x4_1 x5_1 x6_1 l0_0 l0_1 l0_2 x1120003_1 x1120004_1 = some (r1, r2)) ∧ Aside0 (kq ≤ k) ∧ Aside0 (w'.heap[gb1119]? = some (.cells #[(.slice A0_0 l0_0.length c0_0), (.slice A0_1 l0_1.length c0_1), (.slice A0_2 l0_2.length c0_2), .int .i64 x1120003_1, .int .i64 x1120004_1] 64 (0, 0))) ∧ Aside0 (Below w.heap.size w w'))
  case atStart => exact ⟨(0), (0), (0), (a0_3), (a0_4), (by first | rfl | (simp; done) | (simp [*]; done) | (simp [Int.tdiv_eq_ediv_of_nonneg, *]; done)), (by first | rfl | (simp; done) | (simp [*]; done) | (simp [Int.tdiv_eq_ediv_of_nonneg, *]; done)), (by first | rfl | (simp; done) | (simp [*]; done) | (simp [Int.tdiv_eq_ediv_of_nonneg, *]; done)), H', ⟨Nat.le_refl _⟩, ⟨by (with_reducible repeat (first | refine blk_drewN ?_ _ | refine blk_drew ?_ | refine blk_alloc ?_ _)); exact BK1119.out⟩, ⟨by repeat (first | (with_reducible first | exact HB.out | apply below_alloc | apply pw_below_drewN | apply below_drew1 | refine below_set ?_ GE1119.out) | exact HB.out)⟩⟩
  case round =>
   clear H'
   try clear p2
   try clear c3
   obtain ⟨x4_1, x5_1, x6_1, x1120003_1, x1120004_1, rfl, rfl, rfl, HA, HK1, BK1119, HB⟩ := hrel
   cases gk with
   | zero => exact absurd HA.out (by simp [spec_BoundOf.l0])
   | succ k1 =>
    have H := HA.out
    clear HA
    simp only [spec_BoundOf.l0] at H
    by_cases c6 : x6_1 < (l0_0.length : Int)
    ·rw [if_pos c6] at H
     have c6b0 : decide (x6_1 < (l0_0.length : Int)) = true := decide_eq_true c6
     clear c6
     replace H := Option.bind_eq_some_iff.mp H
     obtain ⟨⟨t1121, t1124⟩, A70, H⟩ := H
     replace H : (if t1124 = true then ((spec_l00Max.f x5_1 (t1121.length : Int)).bind fun t1125 => (spec_BoundOf.l0 k1 (wrap64 (x4_1 + (wrap64 (x1120004_1 * (t1121.length : Int))))) t1125 (wrap64 (x6_1 + 1)) l0_0 l0_1 l0_2 x1120003_1 x1120004_1)) else (some (0, false))) = some (r1, r2) := H
     have A7 := Aside0.mk A70
     clear A70
     by_cases c8 : t1124 = true
     ·subst c8
      have H1 : ((spec_l00Max.f x5_1 (t1121.length : Int)).bind fun t1125 => (spec_BoundOf.l0 k1 (wrap64 (x4_1 + (wrap64 (x1120004_1 * (t1121.length : Int))))) t1125 (wrap64 (x6_1 + 1)) l0_0 l0_1 l0_2 x1120003_1 x1120004_1)) = some (r1, r2) := by rw [if_pos rfl] at H; exact H
      clear H
      have H := H1
      clear H1
      replace H := Option.bind_eq_some_iff.mp H
      obtain ⟨t1125, A90, H⟩ := H
      replace H : (spec_BoundOf.l0 k1 (wrap64 (x4_1 + (wrap64 (x1120004_1 * (t1121.length : Int))))) t1125 (wrap64 (x6_1 + 1)) l0_0 l0_1 l0_2 x1120003_1 x1120004_1) = some (r1, r2) := H
      have A9 := Aside0.mk A90
      clear A90
      have H' := Aside0.mk H
      clear H
      have hcz10_0 : wr.cell? ⟨gb1119, 0, none⟩ = some (.slice A0_0 l0_0.length c0_0) := (blk_cell BK1119.out 0).trans rfl
      have hcz10_1 : wr.cell? ⟨gb1119, 1, none⟩ = some (.slice A0_1 l0_1.length c0_1) := (blk_cell BK1119.out 1).trans rfl
      have hcz10_2 : wr.cell? ⟨gb1119, 2, none⟩ = some (.slice A0_2 l0_2.length c0_2) := (blk_cell BK1119.out 2).trans rfl
      have hcz10_3 : wr.cell? ⟨gb1119, 3, none⟩ = some (.int .i64 x1120003_1) := (blk_cell BK1119.out 3).trans rfl
      have hcz10_4 : wr.cell? ⟨gb1119, 4, none⟩ = some (.int .i64 x1120004_1) := (blk_cell BK1119.out 4).trans rfl
      have hfz10_0 := blk_frozen BK1119.out 0
      have hfz10_1 := blk_frozen BK1119.out 1
      have hfz10_2 := blk_frozen BK1119.out 2
      have hfz10_3 := blk_frozen BK1119.out 3
      have hfz10_4 := blk_frozen BK1119.out 4
      go_wp2_with (first | ((with_reducible refine gate_callee (f := 126) rfl ?_); refine goesL_ (some 20) rfl rfl Try.func126 (by kernel_rfl) rfl #[.pointer (some ⟨gb1119, 0, none⟩), .int .i64 x6_1] rfl (by (try simp only [List.map_toArray, List.map_cons, List.map_nil]); first | done | rfl | (simp only [List.length_drop, List.length_take]; rfl)) ?_; (with_reducible refine (spec_l08Needs.calls k1 gb1119 A0_0 c0_0 l0_0 A0_1 c0_1 l0_1 A0_2 c0_2 l0_2 x1120003_1 x1120004_1 x6_1 t1121 true _ ?side1 ?side2 ?side3 ?side4 ?side5 ?side6 ?side7 A7.out).mono ?_); (case side1 => repeat (first | exact (Kd.C_below HR0_0.out HB.out) | (with_reducible refine Kd.C_alloc ?_ _) | (with_reducible refine Kd.C_drewN ?_ _) | (with_reducible refine Kd.C_drew ?_))); (case side2 => exact HC0_0.out); (case side3 => repeat (first | exact (Kd.C_below HR0_1.out HB.out) | (with_reducible refine Kd.C_alloc ?_ _) | (with_reducible refine Kd.C_drewN ?_ _) | (with_reducible refine Kd.C_drew ?_))); (case side4 => exact HC0_1.out); (case side5 => repeat (first | exact (Kd.C_below HR0_2.out HB.out) | (with_reducible refine Kd.C_alloc ?_ _) | (with_reducible refine Kd.C_drewN ?_ _) | (with_reducible refine Kd.C_drew ?_))); (case side6 => exact HC0_2.out); (case side7 => exact (by (with_reducible repeat (first | refine blk_drewN ?_ _ | refine blk_drew ?_ | refine blk_alloc ?_ _)); exact BK1119.out)); rintro e w11 ⟨v1122, rfl, ho0, hb⟩; refine ⟨_, rfl, ?_⟩; have n0_ := Aside0.mk (Kd.S_lower ho0 (below_size (by repeat (first | (with_reducible first | exact HB.out | apply below_alloc | apply pw_below_drewN | apply below_drew1 | refine below_set ?_ GE1119.out) | exact HB.out)))); have n1_ := Aside0.mk (blk_below (g := gb1119) (o := .cells #[.slice A0_0 l0_0.length c0_0, .slice A0_1 l0_1.length c0_1, .slice A0_2 l0_2.length c0_2, .int .i64 x1120003_1, .int .i64 x1120004_1] 64 (0, 0)) (by (with_reducible repeat (first | refine blk_drewN ?_ _ | refine blk_drew ?_ | refine blk_alloc ?_ _)); exact BK1119.out) hb); have n2_ := Aside0.mk (below_step (by repeat (first | (with_reducible first | exact HB.out | apply below_alloc | apply pw_below_drewN | apply below_drew1 | refine below_set ?_ GE1119.out) | exact HB.out)) hb); clear BK1119; clear HB; have HO1123 := n0_; have BK1119 := n1_; have HB := n2_; clear n0_ n1_ n2_; (try clear hb); (try clear hb2); (try clear hk); (try clear hi); (try clear ho0); have hcz12_0 : w11.cell? ⟨gb1119, 0, none⟩ = some (.slice A0_0 l0_0.length c0_0) := (blk_cell BK1119.out 0).trans rfl; have hcz12_1 : w11.cell? ⟨gb1119, 1, none⟩ = some (.slice A0_1 l0_1.length c0_1) := (blk_cell BK1119.out 1).trans rfl; have hcz12_2 : w11.cell? ⟨gb1119, 2, none⟩ = some (.slice A0_2 l0_2.length c0_2) := (blk_cell BK1119.out 2).trans rfl; have hcz12_3 : w11.cell? ⟨gb1119, 3, none⟩ = some (.int .i64 x1120003_1) := (blk_cell BK1119.out 3).trans rfl; have hcz12_4 : w11.cell? ⟨gb1119, 4, none⟩ = some (.int .i64 x1120004_1) := (blk_cell BK1119.out 4).trans rfl; have hfz12_0 := blk_frozen BK1119.out 0; have hfz12_1 := blk_frozen BK1119.out 1; have hfz12_2 := blk_frozen BK1119.out 2; have hfz12_3 := blk_frozen BK1119.out 3; have hfz12_4 := blk_frozen BK1119.out 4; obtain ⟨Ao13, co13, eo13⟩ := Kd.S_slice HO1123.out; subst eo13) | ((with_reducible refine gate_callee (f := 112) rfl ?_); refine goesL_ (some 35) rfl rfl Try.func112 (by kernel_rfl) rfl #[.int .i64 x5_1, .int .i64 (t1121.length : Int)] rfl (by (try simp only [List.map_toArray, List.map_cons, List.map_nil]); first | done | rfl | (simp only [List.length_drop, List.length_take]; rfl)) ?_; (with_reducible refine (spec_l00Max.calls x5_1 (t1121.length : Int) t1125 _ A9.out).mono ?_); rintro e w' ⟨rfl, ⟨nd, rfl⟩⟩; refine ⟨_, rfl, ?_⟩))
      go_roundg k1
      case measure => have := HK1.out; omega
      case rel => exact ⟨(wrap64 (x4_1 + (wrap64 (x1120004_1 * (t1121.length : Int))))), (t1125), (wrap64 (x6_1 + 1)), (x1120003_1), (x1120004_1), (by first | rfl | (simp; done) | (simp [*]; done) | (simp [Int.tdiv_eq_ediv_of_nonneg, *]; done)), (by first | rfl | (simp; done) | (simp [*]; done) | (simp [Int.tdiv_eq_ediv_of_nonneg, *]; done)), (by first | rfl | (simp; done) | (simp [*]; done) | (simp [Int.tdiv_eq_ediv_of_nonneg, *]; done)), H', ⟨by have := HK1.out; omega⟩, ⟨by (with_reducible repeat (first | refine blk_drewN ?_ _ | refine blk_drew ?_ | refine blk_alloc ?_ _)); exact BK1119.out⟩, ⟨by repeat (first | (with_reducible first | exact HB.out | apply below_alloc | apply pw_below_drewN | apply below_drew1 | refine below_set ?_ GE1119.out) | exact HB.out)⟩⟩
     ·replace c8 := Bool.eq_false_iff.mpr c8
      subst c8
      have H1 : (some (0, false)) = some (r1, r2) := by rw [if_neg (show ¬ (false = true) by decide)] at H; exact H
      clear H
      have H := H1
      clear H1
      simp only [Option.some.injEq, Prod.mk.injEq] at H
      obtain ⟨rfl, rfl⟩ := H
      have hcz14_0 : wr.cell? ⟨gb1119, 0, none⟩ = some (.slice A0_0 l0_0.length c0_0) := (blk_cell BK1119.out 0).trans rfl
      have hcz14_1 : wr.cell? ⟨gb1119, 1, none⟩ = some (.slice A0_1 l0_1.length c0_1) := (blk_cell BK1119.out 1).trans rfl
      have hcz14_2 : wr.cell? ⟨gb1119, 2, none⟩ = some (.slice A0_2 l0_2.length c0_2) := (blk_cell BK1119.out 2).trans rfl
      have hcz14_3 : wr.cell? ⟨gb1119, 3, none⟩ = some (.int .i64 x1120003_1) := (blk_cell BK1119.out 3).trans rfl
      have hcz14_4 : wr.cell? ⟨gb1119, 4, none⟩ = some (.int .i64 x1120004_1) := (blk_cell BK1119.out 4).trans rfl
      have hfz14_0 := blk_frozen BK1119.out 0
      have hfz14_1 := blk_frozen BK1119.out 1
      have hfz14_2 := blk_frozen BK1119.out 2
      have hfz14_3 := blk_frozen BK1119.out 3
      have hfz14_4 := blk_frozen BK1119.out 4
      go_wp2_with (first | ((with_reducible refine gate_callee (f := 126) rfl ?_); refine goesL_ (some 20) rfl rfl Try.func126 (by kernel_rfl) rfl #[.pointer (some ⟨gb1119, 0, none⟩), .int .i64 x6_1] rfl (by (try simp only [List.map_toArray, List.map_cons, List.map_nil]); first | done | rfl | (simp only [List.length_drop, List.length_take]; rfl)) ?_; (with_reducible refine (spec_l08Needs.calls k1 gb1119 A0_0 c0_0 l0_0 A0_1 c0_1 l0_1 A0_2 c0_2 l0_2 x1120003_1 x1120004_1 x6_1 t1121 false _ ?side1 ?side2 ?side3 ?side4 ?side5 ?side6 ?side7 A7.out).mono ?_); (case side1 => repeat (first | exact (Kd.C_below HR0_0.out HB.out) | (with_reducible refine Kd.C_alloc ?_ _) | (with_reducible refine Kd.C_drewN ?_ _) | (with_reducible refine Kd.C_drew ?_))); (case side2 => exact HC0_0.out); (case side3 => repeat (first | exact (Kd.C_below HR0_1.out HB.out) | (with_reducible refine Kd.C_alloc ?_ _) | (with_reducible refine Kd.C_drewN ?_ _) | (with_reducible refine Kd.C_drew ?_))); (case side4 => exact HC0_1.out); (case side5 => repeat (first | exact (Kd.C_below HR0_2.out HB.out) | (with_reducible refine Kd.C_alloc ?_ _) | (with_reducible refine Kd.C_drewN ?_ _) | (with_reducible refine Kd.C_drew ?_))); (case side6 => exact HC0_2.out); (case side7 => exact (by (with_reducible repeat (first | refine blk_drewN ?_ _ | refine blk_drew ?_ | refine blk_alloc ?_ _)); exact BK1119.out)); rintro e w15 ⟨v1122, rfl, ho0, hb⟩; refine ⟨_, rfl, ?_⟩; have n0_ := Aside0.mk (Kd.S_lower ho0 (below_size (by repeat (first | (with_reducible first | exact HB.out | apply below_alloc | apply pw_below_drewN | apply below_drew1 | refine below_set ?_ GE1119.out) | exact HB.out)))); have n1_ := Aside0.mk (blk_below (g := gb1119) (o := .cells #[.slice A0_0 l0_0.length c0_0, .slice A0_1 l0_1.length c0_1, .slice A0_2 l0_2.length c0_2, .int .i64 x1120003_1, .int .i64 x1120004_1] 64 (0, 0)) (by (with_reducible repeat (first | refine blk_drewN ?_ _ | refine blk_drew ?_ | refine blk_alloc ?_ _)); exact BK1119.out) hb); have n2_ := Aside0.mk (below_step (by repeat (first | (with_reducible first | exact HB.out | apply below_alloc | apply pw_below_drewN | apply below_drew1 | refine below_set ?_ GE1119.out) | exact HB.out)) hb); clear BK1119; clear HB; have HO1123 := n0_; have BK1119 := n1_; have HB := n2_; clear n0_ n1_ n2_; (try clear hb); (try clear hb2); (try clear hk); (try clear hi); (try clear ho0)))
      go_ret2
      exact ⟨by first | rfl | (simp [errW_none, errW_some] <;> rfl) | (simp [*, errW_none, errW_some] <;> rfl) | (simp [Int.tdiv_eq_ediv_of_nonneg, *]; done), by repeat (first | (with_reducible first | exact HB.out | apply below_alloc | apply pw_below_drewN | apply below_drew1 | refine below_set ?_ GE1119.out) | exact HB.out)⟩
    ·rw [if_neg c6] at H
     have c6b0 : decide (x6_1 < (l0_0.length : Int)) = false := decide_eq_false c6
     clear c6
     simp only [Option.some.injEq, Prod.mk.injEq] at H
     obtain ⟨rfl, rfl⟩ := H
     have hcz16_0 : wr.cell? ⟨gb1119, 0, none⟩ = some (.slice A0_0 l0_0.length c0_0) := (blk_cell BK1119.out 0).trans rfl
     have hcz16_1 : wr.cell? ⟨gb1119, 1, none⟩ = some (.slice A0_1 l0_1.length c0_1) := (blk_cell BK1119.out 1).trans rfl
     have hcz16_2 : wr.cell? ⟨gb1119, 2, none⟩ = some (.slice A0_2 l0_2.length c0_2) := (blk_cell BK1119.out 2).trans rfl
     have hcz16_3 : wr.cell? ⟨gb1119, 3, none⟩ = some (.int .i64 x1120003_1) := (blk_cell BK1119.out 3).trans rfl
     have hcz16_4 : wr.cell? ⟨gb1119, 4, none⟩ = some (.int .i64 x1120004_1) := (blk_cell BK1119.out 4).trans rfl
     have hfz16_0 := blk_frozen BK1119.out 0
     have hfz16_1 := blk_frozen BK1119.out 1
     have hfz16_2 := blk_frozen BK1119.out 2
     have hfz16_3 := blk_frozen BK1119.out 3
     have hfz16_4 := blk_frozen BK1119.out 4
     go_wp2
     go_ret2
     exact ⟨by first | rfl | (simp [errW_none, errW_some] <;> rfl) | (simp [*, errW_none, errW_some] <;> rfl) | (simp [Int.tdiv_eq_ediv_of_nonneg, *]; done), by repeat (first | (with_reducible first | exact HB.out | apply below_alloc | apply pw_below_drewN | apply below_drew1 | refine below_set ?_ GE1119.out) | exact HB.out)⟩
 ·replace c3 := Bool.eq_false_iff.mpr c3
  subst c3
  have H1 : (some (0, false)) = some (r1, r2) := by rw [if_neg (show ¬ (false = true) by decide)] at H; exact H
  clear H
  have H := H1
  clear H1
  simp only [Option.some.injEq, Prod.mk.injEq] at H
  obtain ⟨rfl, rfl⟩ := H
  go_enter Try.func69, Try.ntmps69
  go_wp2_with (first | ((with_reducible refine gate_dst (N := 1) rfl ?_); refine box_event ?hg (N := 1) ?hd (cs := #[.slice A0_0 l0_0.length c0_0, .slice A0_1 l0_1.length c0_1, .slice A0_2 l0_2.length c0_2, .int .i64 a0_3, .int .i64 a0_4]) (t := 64) ?hr ?_; (case hd => rfl); (case hg => rfl); (case hr => first | (go_simp; done) | (go_simp; rfl)); intro gb1119 hg w17 hbox hb; have n0_ := Aside0.mk (below_step (by repeat (first | (with_reducible first | exact HB.out | apply below_alloc | apply pw_below_drewN | apply below_drew1) | exact HB.out)) hb); have n1_ := Aside0.mk (hbox); have n2_ := Aside0.mk ((by rw [hg]; exact (below_size (by repeat (first | (with_reducible first | exact HB.out | apply below_alloc | apply pw_below_drewN | apply below_drew1) | exact HB.out))) : w.heap.size ≤ gb1119)); have n3_ := Aside0.mk ((by rw [hg]; exact (below_size (by repeat (first | (with_reducible first | exact HB.out | apply below_alloc | apply pw_below_drewN | apply below_drew1) | exact HB.out))) : w.heap.size ≤ gb1119)); clear HB; have HB := n0_; have BK1119 := n1_; have GW1119 := n2_; have GE1119 := n3_; clear n0_ n1_ n2_ n3_; clear hb hbox hg) | ((with_reducible refine gate_callee (f := 93) rfl ?_); refine goesL_ (some 9) rfl rfl Try.func93 (by kernel_rfl) rfl #[.pointer (some ⟨gb1119, 0, none⟩)] rfl (by (try simp only [List.map_toArray, List.map_cons, List.map_nil]); first | done | rfl | (simp only [List.length_drop, List.length_take]; rfl)) ?_; (with_reducible refine (spec_l08Is.calls k gb1119 A0_0 c0_0 l0_0 A0_1 c0_1 l0_1 A0_2 c0_2 l0_2 a0_3 a0_4 false _ ?side1 ?side2 ?side3 ?side4 ?side5 ?side6 ?side7 A2.out).mono ?_); (case side1 => repeat (first | exact (Kd.C_below HR0_0.out HB.out) | (with_reducible refine Kd.C_alloc ?_ _) | (with_reducible refine Kd.C_drewN ?_ _) | (with_reducible refine Kd.C_drew ?_))); (case side2 => exact HC0_0.out); (case side3 => repeat (first | exact (Kd.C_below HR0_1.out HB.out) | (with_reducible refine Kd.C_alloc ?_ _) | (with_reducible refine Kd.C_drewN ?_ _) | (with_reducible refine Kd.C_drew ?_))); (case side4 => exact HC0_1.out); (case side5 => repeat (first | exact (Kd.C_below HR0_2.out HB.out) | (with_reducible refine Kd.C_alloc ?_ _) | (with_reducible refine Kd.C_drewN ?_ _) | (with_reducible refine Kd.C_drew ?_))); (case side6 => exact HC0_2.out); (case side7 => exact (by (with_reducible repeat (first | refine blk_drewN ?_ _ | refine blk_drew ?_ | refine blk_alloc ?_ _)); exact BK1119.out)); rintro e w18 ⟨rfl, hb⟩; (try (have db_ : ∀ {w w' : World}, Drawn0 w w' → Below w.heap.size w w' := (by intro w w' h_; obtain ⟨n_, rfl⟩ := h_; exact pw_below_drewN (Below.refl _ _) _); replace hb := db_ hb; clear db_)); refine ⟨_, rfl, ?_⟩; have n0_ := Aside0.mk (blk_below (g := gb1119) (o := .cells #[.slice A0_0 l0_0.length c0_0, .slice A0_1 l0_1.length c0_1, .slice A0_2 l0_2.length c0_2, .int .i64 a0_3, .int .i64 a0_4] 64 (0, 0)) (by (with_reducible repeat (first | refine blk_drewN ?_ _ | refine blk_drew ?_ | refine blk_alloc ?_ _)); exact BK1119.out) hb); have n1_ := Aside0.mk (below_step (by repeat (first | (with_reducible first | exact HB.out | apply below_alloc | apply pw_below_drewN | apply below_drew1 | refine below_set ?_ GE1119.out) | exact HB.out)) hb); clear BK1119; clear HB; have BK1119 := n0_; have HB := n1_; clear n0_ n1_; (try clear hb); (try clear hb2); (try clear hk); (try clear hi)))
  go_ret2
  exact ⟨by first | rfl | (simp [errW_none, errW_some] <;> rfl) | (simp [*, errW_none, errW_some] <;> rfl) | (simp [Int.tdiv_eq_ediv_of_nonneg, *]; done), by repeat (first | (with_reducible first | exact HB.out | apply below_alloc | apply pw_below_drewN | apply below_drew1 | refine below_set ?_ GE1119.out) | exact HB.out)⟩

mutual
def impl_Head_needs.l0 : Nat → Int → List (List Int) → Int → List (S79) → List Int → List Int → Int → Int → Option ((List (List Int)) × Bool)
 | 0, _, _, _, _, _, _, _, _ => none
 | k + 1, x1, x6, x7, x1127000, x1127001, x1127002, x1127003, x1127004 => (impl_Head_reach.f k x1127000 x1127001 x1127002 x1127003 x1127004 x1 x7 0).bind fun t1130 => (if t1130 = (x1127001.length : Int) then (some (x6, true)) else (impl_Head_needs.l1 k x1 x6 x7 t1130 (-1) x1127002 (x1127002.length : Int) 0 x1127000 x1127001 x1127002 x1127003 x1127004))
def impl_Head_needs.l1 : Nat → Int → List (List Int) → Int → Int → Int → List Int → Int → Int → List (S79) → List Int → List Int → Int → Int → Option ((List (List Int)) × Bool)
 | 0, _, _, _, _, _, _, _, _, _, _, _, _, _ => none
 | k + 1, x1, x6, x7, x8, x9, x24, x25, x26, x1127000, x1127001, x1127002, x1127003, x1127004 => if x26 < x25 then (if 0 ≤ x26 then (if x26 < (x24.length : Int) then (if (rd x24 x26) > x7 then (if (rd x24 x26) ≤ x8 then (impl_Head_needs.l1 k x1 x6 x7 x8 (rd x24 x26) x24 x25 (wrap64 (x26 + 1)) x1127000 x1127001 x1127002 x1127003 x1127004) else (impl_Head_needs.l1 k x1 x6 x7 x8 x9 x24 x25 (wrap64 (x26 + 1)) x1127000 x1127001 x1127002 x1127003 x1127004)) else (impl_Head_needs.l1 k x1 x6 x7 x8 x9 x24 x25 (wrap64 (x26 + 1)) x1127000 x1127001 x1127002 x1127003 x1127004)) else (none)) else (none)) else (if x9 < 0 then (some (([] : List (List Int)), false)) else (if x6.length < 5864062014805 then (impl_Head_needs.l0 k x1 (x6 ++ [(([x7, x8] : List Int))]) x9 x1127000 x1127001 x1127002 x1127003 x1127004) else (none)))
end
def impl_Head_needs.f (k : Nat) (l0_0 : List (S79)) (l0_1 : List Int) (l0_2 : List Int) (a0_3 : Int) (a0_4 : Int) (a1 : Int) : Option ((List (List Int)) × Bool) := impl_Head_needs.l0 k a1 (([] : List (List Int))) 0 l0_0 l0_1 l0_2 a0_3 a0_4
set_option maxHeartbeats 8000000 in
set_option maxRecDepth 100000 in
theorem impl_Head_needs.calls (k : Nat) (A0_0 : Option Addr) (c0_0 : Nat) (l0_0 : List (S79)) (A0_1 : Option Addr) (c0_1 : Nat) (l0_1 : List Int) (A0_2 : Option Addr) (c0_2 : Nat) (l0_2 : List Int) (a0_3 : Int) (a0_4 : Int) (a1 : Int) (r1 : List (List Int)) (r2 : Bool) (w : World) (hr0_0 : Kd.C k79 w A0_0 l0_0.length l0_0) (hc0_0 : l0_0.length ≤ c0_0) (hr0_1 : Kd.C (Kd.int .i64) w A0_1 l0_1.length l0_1) (hc0_1 : l0_1.length ≤ c0_1) (hr0_2 : Kd.C (Kd.int .i64) w A0_2 l0_2.length l0_2) (hc0_2 : l0_2.length ≤ c0_2) (h : impl_Head_needs.f k l0_0 l0_1 l0_2 a0_3 a0_4 a1 = some (r1, r2)) :
  Calls Try.prog 127 #[.agg #[.slice A0_0 l0_0.length c0_0, .slice A0_1 l0_1.length c0_1, .slice A0_2 l0_2.length c0_2, .int .i64 a0_3, .int .i64 a0_4], .int .i64 a1] w fun e w' => ∃ v0_ : Value, e = .returned (.tuple #[v0_, .bool r2]) ∧ Kd.S (Kd.slice 2 (Kd.int .i64)) 24 w' w.heap.size (fun _ => True) v0_ r1 ∧ Below w.heap.size w w' := by
 have hu64 := Try.underlying64
 have HR0_0 := Aside0.mk hr0_0
 have HC0_0 := Aside0.mk hc0_0
 clear hr0_0 hc0_0
 have HR0_1 := Aside0.mk hr0_1
 have HC0_1 := Aside0.mk hc0_1
 clear hr0_1 hc0_1
 have HR0_2 := Aside0.mk hr0_2
 have HC0_2 := Aside0.mk hc0_2
 clear hr0_2 hc0_2
 have HB := Aside0.mk (Below.refl w.heap.size w)
 have H : (impl_Head_needs.l0 k a1 (([] : List (List Int))) 0 l0_0 l0_1 l0_2 a0_3 a0_4) = some (r1, r2) := h
 clear h
 obtain ⟨y1127, hy1127⟩ : ∃ y_ : List (List Int), y_ = (([] : List (List Int))) := ⟨_, rfl⟩
 replace H : (impl_Head_needs.l0 k a1 y1127 0 l0_0 l0_1 l0_2 a0_3 a0_4) = some (r1, r2) := by first | (rw [hy1127]; with_reducible exact H) | (have H2_ := (Option.bind_some _ _).symm.trans H; rw [hy1127]; with_reducible exact H2_) | (have H2_ := (Option.bind_some _ _).symm.trans H; with_reducible exact H2_) | with_reducible exact H | (rw [hy1127]; exact H) | exact H
 have Ny1127 := Aside0.mk hy1127
 clear hy1127
 have H' := Aside0.mk H
 clear H
 go_enter Try.func127, Try.ntmps127
 go_wp2_with (first | ((with_reducible refine gate_dst (N := 2) rfl ?_); refine box_event ?hg (N := 2) ?hd (cs := #[.slice A0_0 l0_0.length c0_0, .slice A0_1 l0_1.length c0_1, .slice A0_2 l0_2.length c0_2, .int .i64 a0_3, .int .i64 a0_4]) (t := 64) ?hr ?_; (case hd => rfl); (case hg => rfl); (case hr => first | (go_simp; done) | (go_simp; rfl)); intro gb1126 hg w3 hbox hb; have n0_ := Aside0.mk (below_step (by repeat (first | (with_reducible first | exact HB.out | apply below_alloc | apply pw_below_drewN | apply below_drew1) | exact HB.out)) hb); have n1_ := Aside0.mk (hbox); have n2_ := Aside0.mk ((by rw [hg]; exact (below_size (by repeat (first | (with_reducible first | exact HB.out | apply below_alloc | apply pw_below_drewN | apply below_drew1) | exact HB.out))) : w.heap.size ≤ gb1126)); have n3_ := Aside0.mk ((by rw [hg]; exact (below_size (by repeat (first | (with_reducible first | exact HB.out | apply below_alloc | apply pw_below_drewN | apply below_drew1) | exact HB.out))) : w.heap.size ≤ gb1126)); clear HB; have HB := n0_; have BK1126 := n1_; have GW1126 := n2_; have GE1126 := n3_; clear n0_ n1_ n2_ n3_; clear hb hbox hg) | ((with_reducible refine gate_dst (N := 12) rfl ?_); refine Kd.S_lit (Kd.slice 2 (Kd.int .i64)) _ 24 ?hg (N := 12) ?hd (xs := ([] : List (List Int))) (inner := []) (ok := fun _ => True) (okp := fun _ => True) ?hr ?hp (fun _ hk => hk) trivial (Below.refl _ _) (Nat.le_refl _) (by simp) ?_; (case hd => rfl); (case hg => rfl); (case hr => first | (go_simp; done) | (go_simp; rfl)); (case hp => exact (Reps.none _ _)); intro v1128 w4 ho5 hb hg_ hnew_; clear hg_ hnew_; (first | rw [← Ny1127.out] at ho5 | (simp only [Int.reduceToNat] at ho5; rw [← Ny1127.out] at ho5)); have n0_ := Aside0.mk (Kd.S_lower ho5 (below_size (by repeat (first | (with_reducible first | exact HB.out | apply below_alloc | apply pw_below_drewN | apply below_drew1 | refine below_set ?_ GE1126.out) | exact HB.out)))); have n1_ := Aside0.mk (blk_below (g := gb1126) (o := .cells #[.slice A0_0 l0_0.length c0_0, .slice A0_1 l0_1.length c0_1, .slice A0_2 l0_2.length c0_2, .int .i64 a0_3, .int .i64 a0_4] 64 (0, 0)) (by (with_reducible repeat (first | refine blk_drewN ?_ _ | refine blk_drew ?_ | refine blk_alloc ?_ _)); exact BK1126.out) hb); have n2_ := Aside0.mk (below_step (by repeat (first | (with_reducible first | exact HB.out | apply below_alloc | apply pw_below_drewN | apply below_drew1 | refine below_set ?_ GE1126.out) | exact HB.out)) hb); clear BK1126; clear HB; have HO1129 := n0_; have BK1126 := n1_; have HB := n2_; clear n0_ n1_ n2_; clear hb ho5))
 go_loopg [6, 7] k (fun kq v6 v7 w' => ∃ (x6_1 : List (List Int)) (x7_1 : Int), v7 = .int .i64 x7_1 ∧ Aside0 (impl_Head_needs.l0 kq a1 x6_1 x7_1 l0_0 l0_1 l0_2 a0_3 a0_4 = some (r1, r2)) ∧ Aside0 (kq ≤ k) ∧ Aside0 (Kd.S (Kd.slice 2 (Kd.int .i64)) 24 w' w.heap.size (fun _ => True) v6 x6_1) ∧ Aside0 (w'.heap[gb1126]? = some (.cells #[(.slice A0_0 l0_0.length c0_0), (.slice A0_1 l0_1.length c0_1), (.slice A0_2 l0_2.length c0_2), .int .i64 a0_3, .int .i64 a0_4] 64 (0, 0))) ∧ Aside0 (Below w.heap.size w w'))
 case atStart => exact ⟨(y1127), (0), (by first | rfl | (simp; done) | (simp [*]; done) | (simp [Int.tdiv_eq_ediv_of_nonneg, *]; done)), H', ⟨Nat.le_refl _⟩, ⟨by (with_reducible repeat (first | apply Kd.S_alloc | apply Kd.S_drewN | apply Kd.S_drew)); exact HO1129.out⟩, ⟨by (with_reducible repeat (first | refine blk_drewN ?_ _ | refine blk_drew ?_ | refine blk_alloc ?_ _)); exact BK1126.out⟩, ⟨by repeat (first | (with_reducible first | exact HB.out | apply below_alloc | apply pw_below_drewN | apply below_drew1 | refine below_set ?_ GE1126.out) | exact HB.out)⟩⟩
 case round =>
  clear H'
  try clear c1
  try clear p2
  obtain ⟨x6_1, x7_1, rfl, HA, HK1, HO_6, BK1126, HB⟩ := hrel
  cases gk with
  | zero => exact absurd HA.out (by simp [impl_Head_needs.l0])
  | succ k1 =>
   have H := HA.out
   clear HA
   simp only [impl_Head_needs.l0] at H
   replace H := Option.bind_eq_some_iff.mp H
   obtain ⟨t1130, A60, H⟩ := H
   replace H : (if t1130 = (l0_1.length : Int) then (some (x6_1, true)) else (impl_Head_needs.l1 k1 a1 x6_1 x7_1 t1130 (-1) l0_2 (l0_2.length : Int) 0 l0_0 l0_1 l0_2 a0_3 a0_4)) = some (r1, r2) := H
   have A6 := Aside0.mk A60
   clear A60
   by_cases c7 : t1130 = (l0_1.length : Int)
   ·rw [if_pos c7] at H
    have c7b0 : (t1130 == (l0_1.length : Int)) = true := beq_iff_eq.mpr c7
    have c7b1 : (t1130 != (l0_1.length : Int)) = false := bne_eq_false_iff_eq.mpr c7
    clear c7
    simp only [Option.some.injEq, Prod.mk.injEq] at H
    obtain ⟨rfl, rfl⟩ := H
    have hcz8_0 : wr.cell? ⟨gb1126, 0, none⟩ = some (.slice A0_0 l0_0.length c0_0) := (blk_cell BK1126.out 0).trans rfl
    have hcz8_1 : wr.cell? ⟨gb1126, 1, none⟩ = some (.slice A0_1 l0_1.length c0_1) := (blk_cell BK1126.out 1).trans rfl
    have hcz8_2 : wr.cell? ⟨gb1126, 2, none⟩ = some (.slice A0_2 l0_2.length c0_2) := (blk_cell BK1126.out 2).trans rfl
    have hcz8_3 : wr.cell? ⟨gb1126, 3, none⟩ = some (.int .i64 a0_3) := (blk_cell BK1126.out 3).trans rfl
    have hcz8_4 : wr.cell? ⟨gb1126, 4, none⟩ = some (.int .i64 a0_4) := (blk_cell BK1126.out 4).trans rfl
    have hfz8_0 := blk_frozen BK1126.out 0
    have hfz8_1 := blk_frozen BK1126.out 1
    have hfz8_2 := blk_frozen BK1126.out 2
    have hfz8_3 := blk_frozen BK1126.out 3
    have hfz8_4 := blk_frozen BK1126.out 4
    go_wp2_with (first | ((with_reducible refine gate_callee (f := 110) rfl ?_); refine goesL_ (some 16) rfl rfl Try.func110 (by kernel_rfl) rfl #[.agg #[.slice A0_0 l0_0.length c0_0, .slice A0_1 l0_1.length c0_1, .slice A0_2 l0_2.length c0_2, .int .i64 a0_3, .int .i64 a0_4], .int .i64 a1, .int .i64 x7_1, .int .i64 0] rfl (by (try simp only [List.map_toArray, List.map_cons, List.map_nil]); first | done | rfl | (simp only [List.length_drop, List.length_take]; rfl)) ?_; (with_reducible refine (impl_Head_reach.calls k1 _ _ l0_0 _ _ l0_1 _ _ l0_2 a0_3 a0_4 a1 x7_1 0 t1130 _ ?side1 ?side2 ?side3 ?side4 ?side5 ?side6 A6.out).mono ?_); (case side1 => repeat (first | exact (Kd.C_below HR0_0.out HB.out) | (with_reducible refine Kd.C_alloc ?_ _) | (with_reducible refine Kd.C_drewN ?_ _) | (with_reducible refine Kd.C_drew ?_))); (case side2 => exact HC0_0.out); (case side3 => repeat (first | exact (Kd.C_below HR0_1.out HB.out) | (with_reducible refine Kd.C_alloc ?_ _) | (with_reducible refine Kd.C_drewN ?_ _) | (with_reducible refine Kd.C_drew ?_))); (case side4 => exact HC0_1.out); (case side5 => repeat (first | exact (Kd.C_below HR0_2.out HB.out) | (with_reducible refine Kd.C_alloc ?_ _) | (with_reducible refine Kd.C_drewN ?_ _) | (with_reducible refine Kd.C_drew ?_))); (case side6 => exact HC0_2.out); rintro e w9 ⟨rfl, hb⟩; refine ⟨_, rfl, ?_⟩; have n0_ := Aside0.mk (Kd.S_below (by (with_reducible repeat (first | apply Kd.S_alloc | apply Kd.S_drewN | apply Kd.S_drew)); exact HO_6.out) hb); have n1_ := Aside0.mk (blk_below (g := gb1126) (o := .cells #[.slice A0_0 l0_0.length c0_0, .slice A0_1 l0_1.length c0_1, .slice A0_2 l0_2.length c0_2, .int .i64 a0_3, .int .i64 a0_4] 64 (0, 0)) (by (with_reducible repeat (first | refine blk_drewN ?_ _ | refine blk_drew ?_ | refine blk_alloc ?_ _)); exact BK1126.out) hb); have n2_ := Aside0.mk (below_step (by repeat (first | (with_reducible first | exact HB.out | apply below_alloc | apply pw_below_drewN | apply below_drew1 | refine below_set ?_ GE1126.out) | exact HB.out)) hb); clear HO_6; clear BK1126; clear HB; have HO_6 := n0_; have BK1126 := n1_; have HB := n2_; clear n0_ n1_ n2_; (try clear hb); (try clear hb2); (try clear hk); (try clear hi); have hcz10_0 : w9.cell? ⟨gb1126, 0, none⟩ = some (.slice A0_0 l0_0.length c0_0) := (blk_cell BK1126.out 0).trans rfl; have hcz10_1 : w9.cell? ⟨gb1126, 1, none⟩ = some (.slice A0_1 l0_1.length c0_1) := (blk_cell BK1126.out 1).trans rfl; have hcz10_2 : w9.cell? ⟨gb1126, 2, none⟩ = some (.slice A0_2 l0_2.length c0_2) := (blk_cell BK1126.out 2).trans rfl; have hcz10_3 : w9.cell? ⟨gb1126, 3, none⟩ = some (.int .i64 a0_3) := (blk_cell BK1126.out 3).trans rfl; have hcz10_4 : w9.cell? ⟨gb1126, 4, none⟩ = some (.int .i64 a0_4) := (blk_cell BK1126.out 4).trans rfl; have hfz10_0 := blk_frozen BK1126.out 0; have hfz10_1 := blk_frozen BK1126.out 1; have hfz10_2 := blk_frozen BK1126.out 2; have hfz10_3 := blk_frozen BK1126.out 3; have hfz10_4 := blk_frozen BK1126.out 4))
    go_ret2
    exact ⟨_, by first | rfl | (simp [errW_none, errW_some] <;> rfl) | (simp [*, errW_none, errW_some] <;> rfl) | (simp [Int.tdiv_eq_ediv_of_nonneg, *]; done), by (with_reducible repeat (first | apply Kd.S_alloc | apply Kd.S_drewN | apply Kd.S_drew)); exact HO_6.out, by repeat (first | (with_reducible first | exact HB.out | apply below_alloc | apply pw_below_drewN | apply below_drew1 | refine below_set ?_ GE1126.out) | exact HB.out)⟩
   ·rw [if_neg c7] at H
    have c7b0 : (t1130 == (l0_1.length : Int)) = false := beq_eq_false_iff_ne.mpr c7
    have c7b1 : (t1130 != (l0_1.length : Int)) = true := bne_iff_ne.mpr c7
    have H' := Aside0.mk H
    clear H
    have hcz11_0 : wr.cell? ⟨gb1126, 0, none⟩ = some (.slice A0_0 l0_0.length c0_0) := (blk_cell BK1126.out 0).trans rfl
    have hcz11_1 : wr.cell? ⟨gb1126, 1, none⟩ = some (.slice A0_1 l0_1.length c0_1) := (blk_cell BK1126.out 1).trans rfl
    have hcz11_2 : wr.cell? ⟨gb1126, 2, none⟩ = some (.slice A0_2 l0_2.length c0_2) := (blk_cell BK1126.out 2).trans rfl
    have hcz11_3 : wr.cell? ⟨gb1126, 3, none⟩ = some (.int .i64 a0_3) := (blk_cell BK1126.out 3).trans rfl
    have hcz11_4 : wr.cell? ⟨gb1126, 4, none⟩ = some (.int .i64 a0_4) := (blk_cell BK1126.out 4).trans rfl
    have hfz11_0 := blk_frozen BK1126.out 0
    have hfz11_1 := blk_frozen BK1126.out 1
    have hfz11_2 := blk_frozen BK1126.out 2
    have hfz11_3 := blk_frozen BK1126.out 3
    have hfz11_4 := blk_frozen BK1126.out 4
    go_wp2_with (first | ((with_reducible refine gate_callee (f := 110) rfl ?_); refine goesL_ (some 16) rfl rfl Try.func110 (by kernel_rfl) rfl #[.agg #[.slice A0_0 l0_0.length c0_0, .slice A0_1 l0_1.length c0_1, .slice A0_2 l0_2.length c0_2, .int .i64 a0_3, .int .i64 a0_4], .int .i64 a1, .int .i64 x7_1, .int .i64 0] rfl (by (try simp only [List.map_toArray, List.map_cons, List.map_nil]); first | done | rfl | (simp only [List.length_drop, List.length_take]; rfl)) ?_; (with_reducible refine (impl_Head_reach.calls k1 _ _ l0_0 _ _ l0_1 _ _ l0_2 a0_3 a0_4 a1 x7_1 0 t1130 _ ?side1 ?side2 ?side3 ?side4 ?side5 ?side6 A6.out).mono ?_); (case side1 => repeat (first | exact (Kd.C_below HR0_0.out HB.out) | (with_reducible refine Kd.C_alloc ?_ _) | (with_reducible refine Kd.C_drewN ?_ _) | (with_reducible refine Kd.C_drew ?_))); (case side2 => exact HC0_0.out); (case side3 => repeat (first | exact (Kd.C_below HR0_1.out HB.out) | (with_reducible refine Kd.C_alloc ?_ _) | (with_reducible refine Kd.C_drewN ?_ _) | (with_reducible refine Kd.C_drew ?_))); (case side4 => exact HC0_1.out); (case side5 => repeat (first | exact (Kd.C_below HR0_2.out HB.out) | (with_reducible refine Kd.C_alloc ?_ _) | (with_reducible refine Kd.C_drewN ?_ _) | (with_reducible refine Kd.C_drew ?_))); (case side6 => exact HC0_2.out); rintro e w12 ⟨rfl, hb⟩; refine ⟨_, rfl, ?_⟩; have n0_ := Aside0.mk (Kd.S_below (by (with_reducible repeat (first | apply Kd.S_alloc | apply Kd.S_drewN | apply Kd.S_drew)); exact HO_6.out) hb); have n1_ := Aside0.mk (blk_below (g := gb1126) (o := .cells #[.slice A0_0 l0_0.length c0_0, .slice A0_1 l0_1.length c0_1, .slice A0_2 l0_2.length c0_2, .int .i64 a0_3, .int .i64 a0_4] 64 (0, 0)) (by (with_reducible repeat (first | refine blk_drewN ?_ _ | refine blk_drew ?_ | refine blk_alloc ?_ _)); exact BK1126.out) hb); have n2_ := Aside0.mk (below_step (by repeat (first | (with_reducible first | exact HB.out | apply below_alloc | apply pw_below_drewN | apply below_drew1 | refine below_set ?_ GE1126.out) | exact HB.out)) hb); clear HO_6; clear BK1126; clear HB; have HO_6 := n0_; have BK1126 := n1_; have HB := n2_; clear n0_ n1_ n2_; (try clear hb); (try clear hb2); (try clear hk); (try clear hi); have hcz13_0 : w12.cell? ⟨gb1126, 0, none⟩ = some (.slice A0_0 l0_0.length c0_0) := (blk_cell BK1126.out 0).trans rfl; have hcz13_1 : w12.cell? ⟨gb1126, 1, none⟩ = some (.slice A0_1 l0_1.length c0_1) := (blk_cell BK1126.out 1).trans rfl; have hcz13_2 : w12.cell? ⟨gb1126, 2, none⟩ = some (.slice A0_2 l0_2.length c0_2) := (blk_cell BK1126.out 2).trans rfl; have hcz13_3 : w12.cell? ⟨gb1126, 3, none⟩ = some (.int .i64 a0_3) := (blk_cell BK1126.out 3).trans rfl; have hcz13_4 : w12.cell? ⟨gb1126, 4, none⟩ = some (.int .i64 a0_4) := (blk_cell BK1126.out 4).trans rfl; have hfz13_0 := blk_frozen BK1126.out 0; have hfz13_1 := blk_frozen BK1126.out 1; have hfz13_2 := blk_frozen BK1126.out 2; have hfz13_3 := blk_frozen BK1126.out 3; have hfz13_4 := blk_frozen BK1126.out 4))
    go_loopg [9, 26] k1 (fun kq v9 v26 w' => ∃ (x9_2 : Int) (x26_2 : Int), v9 = .int .i64 x9_2 ∧ v26 = .int .i64 x26_2 ∧ Aside0 (impl_Head_needs.l1 kq a1 x6_1 x7_1 t1130 x9_2 l0_2 (l0_2.length : Int) x26_2 l0_0 l0_1 l0_2 a0_3 a0_4 = some (r1, r2)) ∧ Aside0 (kq ≤ k1) ∧ Aside0 (Kd.S (Kd.slice 2 (Kd.int .i64)) 24 w' w.heap.size (fun _ => True) u6 x6_1) ∧ Aside0 (w'.heap[gb1126]? = some (.cells #[(.slice A0_0 l0_0.length c0_0), (.slice A0_1 l0_1.length c0_1), (.slice A0_2 l0_2.length c0_2), .int .i64 a0_3, .int .i64 a0_4] 64 (0, 0))) ∧ Aside0 (Below w.heap.size w w'))
    case atStart => exact ⟨((-1)), (0), (by first | rfl | (simp; done) | (simp [*]; done) | (simp [Int.tdiv_eq_ediv_of_nonneg, *]; done)), (by first | rfl | (simp; done) | (simp [*]; done) | (simp [Int.tdiv_eq_ediv_of_nonneg, *]; done)), H', ⟨Nat.le_refl _⟩, ⟨by (with_reducible repeat (first | apply Kd.S_alloc | apply Kd.S_drewN | apply Kd.S_drew)); exact HO_6.out⟩, ⟨by (with_reducible repeat (first | refine blk_drewN ?_ _ | refine blk_drew ?_ | refine blk_alloc ?_ _)); exact BK1126.out⟩, ⟨by repeat (first | (with_reducible first | exact HB.out | apply below_alloc | apply pw_below_drewN | apply below_drew1 | refine below_set ?_ GE1126.out) | exact HB.out)⟩⟩
    case round =>
     clear H'
     try clear c1
     try clear p2
     try clear c7
     try clear c7b0
     try clear c7b1
     try clear c11
     try clear c12
     try clear hcz10_0
     try clear hcz10_1
     try clear hcz10_2
     try clear hcz10_3
     try clear hcz10_4
     try clear hcz11_0
     try clear hcz11_1
     try clear hcz11_2
     try clear hcz11_3
     try clear hcz11_4
     try clear hcz13_0
     try clear hcz13_1
     try clear hcz13_2
     try clear hcz13_3
     try clear hcz13_4
     try clear hcz8_0
     try clear hcz8_1
     try clear hcz8_2
     try clear hcz8_3
     try clear hcz8_4
     try clear hfz10_0
     try clear hfz10_1
     try clear hfz10_2
     try clear hfz10_3
     try clear hfz10_4
     try clear hfz11_0
     try clear hfz11_1
     try clear hfz11_2
     try clear hfz11_3
     try clear hfz11_4
     try clear hfz13_0
     try clear hfz13_1
     try clear hfz13_2
     try clear hfz13_3
     try clear hfz13_4
     try clear hfz8_0
     try clear hfz8_1
     try clear hfz8_2
     try clear hfz8_3
     try clear hfz8_4
     try clear p2
     obtain ⟨x9_2, x26_2, rfl, rfl, HA, HK2, HO_6, BK1126, HB⟩ := hrel
     cases gk with
     | zero => exact absurd HA.out (by simp [impl_Head_needs.l1])
     | succ k2 =>
      have H := HA.out
      clear HA
      simp only [impl_Head_needs.l1] at H
      by_cases c14 : x26_2 < (l0_2.length : Int)
      ·rw [if_pos c14] at H
       have c14b0 : decide (x26_2 < (l0_2.length : Int)) = true := decide_eq_true c14
       clear c14
       by_cases c15 : 0 ≤ x26_2
       ·rw [if_pos c15] at H
        have c15b0 : decide (0 ≤ x26_2) = true := decide_eq_true c15
        clear c15
        by_cases c16 : x26_2 < (l0_2.length : Int)
        ·rw [if_pos c16] at H
         have c16b0 : decide (x26_2 < (l0_2.length : Int)) = true := decide_eq_true c16
         clear c16
         by_cases c17 : (rd l0_2 x26_2) > x7_1
         ·rw [if_pos c17] at H
          have c17b0 : decide (x7_1 < (rd l0_2 x26_2)) = true := decide_eq_true c17
          clear c17
          by_cases c18 : (rd l0_2 x26_2) ≤ t1130
          ·rw [if_pos c18] at H
           have c18b0 : decide ((rd l0_2 x26_2) ≤ t1130) = true := decide_eq_true c18
           clear c18
           have H' := Aside0.mk H
           clear H
           have p1131 : 0 ≤ (x26_2 : Int) := of_decide_eq_true (by first | (with_reducible assumption) | assumption)
           have q1131 : x26_2 < (l0_2.length : Int) := of_decide_eq_true (by first | (with_reducible assumption) | assumption)
           obtain ⟨ad1131, e1131, hx1131_0⟩ := Kd.at_int HR0_2.out x26_2 p1131 q1131
           cases e1131
           replace hx1131_0 := (HB.out.cell (World.block_lt_of_cell? w _ hx1131_0)).trans hx1131_0
           replace p1131 := eq_true p1131
           replace q1131 := eq_true q1131
           go_wp2
           go_roundg k2
           case measure => have := HK1.out; have := HK2.out; omega
           case rel => exact ⟨(rd l0_2 x26_2), (wrap64 (x26_2 + 1)), (by first | rfl | (simp; done) | (simp [*]; done) | (simp [Int.tdiv_eq_ediv_of_nonneg, *]; done)), (by first | rfl | (simp; done) | (simp [*]; done) | (simp [Int.tdiv_eq_ediv_of_nonneg, *]; done)), H', ⟨by have := HK1.out; have := HK2.out; omega⟩, ⟨by (with_reducible repeat (first | apply Kd.S_alloc | apply Kd.S_drewN | apply Kd.S_drew)); exact HO_6.out⟩, ⟨by (with_reducible repeat (first | refine blk_drewN ?_ _ | refine blk_drew ?_ | refine blk_alloc ?_ _)); exact BK1126.out⟩, ⟨by repeat (first | (with_reducible first | exact HB.out | apply below_alloc | apply pw_below_drewN | apply below_drew1 | refine below_set ?_ GE1126.out) | exact HB.out)⟩⟩
          ·rw [if_neg c18] at H
           have c18b0 : decide ((rd l0_2 x26_2) ≤ t1130) = false := decide_eq_false c18
           clear c18
           have H' := Aside0.mk H
           clear H
           have p1131 : 0 ≤ (x26_2 : Int) := of_decide_eq_true (by first | (with_reducible assumption) | assumption)
           have q1131 : x26_2 < (l0_2.length : Int) := of_decide_eq_true (by first | (with_reducible assumption) | assumption)
           obtain ⟨ad1131, e1131, hx1131_0⟩ := Kd.at_int HR0_2.out x26_2 p1131 q1131
           cases e1131
           replace hx1131_0 := (HB.out.cell (World.block_lt_of_cell? w _ hx1131_0)).trans hx1131_0
           replace p1131 := eq_true p1131
           replace q1131 := eq_true q1131
           go_wp2
           go_roundg k2
           case measure => have := HK1.out; have := HK2.out; omega
           case rel => exact ⟨(x9_2), (wrap64 (x26_2 + 1)), (by first | rfl | (simp; done) | (simp [*]; done) | (simp [Int.tdiv_eq_ediv_of_nonneg, *]; done)), (by first | rfl | (simp; done) | (simp [*]; done) | (simp [Int.tdiv_eq_ediv_of_nonneg, *]; done)), H', ⟨by have := HK1.out; have := HK2.out; omega⟩, ⟨by (with_reducible repeat (first | apply Kd.S_alloc | apply Kd.S_drewN | apply Kd.S_drew)); exact HO_6.out⟩, ⟨by (with_reducible repeat (first | refine blk_drewN ?_ _ | refine blk_drew ?_ | refine blk_alloc ?_ _)); exact BK1126.out⟩, ⟨by repeat (first | (with_reducible first | exact HB.out | apply below_alloc | apply pw_below_drewN | apply below_drew1 | refine below_set ?_ GE1126.out) | exact HB.out)⟩⟩
         ·rw [if_neg c17] at H
          have c17b0 : decide (x7_1 < (rd l0_2 x26_2)) = false := decide_eq_false c17
          clear c17
          have H' := Aside0.mk H
          clear H
          have p1131 : 0 ≤ (x26_2 : Int) := of_decide_eq_true (by first | (with_reducible assumption) | assumption)
          have q1131 : x26_2 < (l0_2.length : Int) := of_decide_eq_true (by first | (with_reducible assumption) | assumption)
          obtain ⟨ad1131, e1131, hx1131_0⟩ := Kd.at_int HR0_2.out x26_2 p1131 q1131
          cases e1131
          replace hx1131_0 := (HB.out.cell (World.block_lt_of_cell? w _ hx1131_0)).trans hx1131_0
          replace p1131 := eq_true p1131
          replace q1131 := eq_true q1131
          go_wp2
          go_roundg k2
          case measure => have := HK1.out; have := HK2.out; omega
          case rel => exact ⟨(x9_2), (wrap64 (x26_2 + 1)), (by first | rfl | (simp; done) | (simp [*]; done) | (simp [Int.tdiv_eq_ediv_of_nonneg, *]; done)), (by first | rfl | (simp; done) | (simp [*]; done) | (simp [Int.tdiv_eq_ediv_of_nonneg, *]; done)), H', ⟨by have := HK1.out; have := HK2.out; omega⟩, ⟨by (with_reducible repeat (first | apply Kd.S_alloc | apply Kd.S_drewN | apply Kd.S_drew)); exact HO_6.out⟩, ⟨by (with_reducible repeat (first | refine blk_drewN ?_ _ | refine blk_drew ?_ | refine blk_alloc ?_ _)); exact BK1126.out⟩, ⟨by repeat (first | (with_reducible first | exact HB.out | apply below_alloc | apply pw_below_drewN | apply below_drew1 | refine below_set ?_ GE1126.out) | exact HB.out)⟩⟩
        ·rw [if_neg c16] at H
         exact absurd H (by simp)
       ·rw [if_neg c15] at H
        exact absurd H (by simp)
      ·rw [if_neg c14] at H
       have c14b0 : decide (x26_2 < (l0_2.length : Int)) = false := decide_eq_false c14
       clear c14
       by_cases c19 : x9_2 < 0
       ·rw [if_pos c19] at H
        have c19b0 : decide (x9_2 < 0) = true := decide_eq_true c19
        clear c19
        simp only [Option.some.injEq, Prod.mk.injEq] at H
        obtain ⟨rfl, rfl⟩ := H
        go_wp2
        go_ret2
        exact ⟨_, by first | rfl | (simp [errW_none, errW_some] <;> rfl) | (simp [*, errW_none, errW_some] <;> rfl) | (simp [Int.tdiv_eq_ediv_of_nonneg, *]; done), by first | exact Kd.S_nil _ _ _ _ _ | exact Kd.N_nil _ _ _ _ _ | exact Kd.V_nil _ _ _ _ _ | exact Kd.Q_nil _ _ _ _ _ | exact Kd.R_nil _ _ _ _ _, by repeat (first | (with_reducible first | exact HB.out | apply below_alloc | apply pw_below_drewN | apply below_drew1 | refine below_set ?_ GE1126.out) | exact HB.out)⟩
       ·rw [if_neg c19] at H
        have c19b0 : decide (x9_2 < 0) = false := decide_eq_false c19
        clear c19
        obtain ⟨y1132, hy1132⟩ : ∃ y_ : List Int, y_ = (([x7_1, t1130] : List Int)) := ⟨_, rfl⟩
        replace H : (if x6_1.length < 5864062014805 then (impl_Head_needs.l0 k2 a1 (x6_1 ++ [y1132]) x9_2 l0_0 l0_1 l0_2 a0_3 a0_4) else (none)) = some (r1, r2) := by first | (rw [hy1132]; with_reducible exact H) | (have H2_ := (Option.bind_some _ _).symm.trans H; rw [hy1132]; with_reducible exact H2_) | (have H2_ := (Option.bind_some _ _).symm.trans H; with_reducible exact H2_) | with_reducible exact H | (rw [hy1132]; exact H) | exact H
        have Ny1132 := Aside0.mk hy1132
        clear hy1132
        by_cases c20 : x6_1.length < 5864062014805
        ·rw [if_pos c20] at H
         have LMc20 := Aside0.mk c20
         clear c20
         obtain ⟨y1135, hy1135⟩ : ∃ y_ : List (List Int), y_ = (x6_1 ++ [y1132]) := ⟨_, rfl⟩
         replace H : (impl_Head_needs.l0 k2 a1 y1135 x9_2 l0_0 l0_1 l0_2 a0_3 a0_4) = some (r1, r2) := by first | (rw [hy1135]; with_reducible exact H) | (have H2_ := (Option.bind_some _ _).symm.trans H; rw [hy1135]; with_reducible exact H2_) | (have H2_ := (Option.bind_some _ _).symm.trans H; with_reducible exact H2_) | with_reducible exact H | (rw [hy1135]; exact H) | exact H
         have Ny1135 := Aside0.mk hy1135
         clear hy1135
         have H' := Aside0.mk H
         clear H
         go_wp2_with (first | ((with_reducible refine gate_dst (N := 45) rfl ?_); refine Kd.R_lit (Kd.int .i64) _ 2 ?hg (N := 45) ?hd (xs := ([x7_1, t1130] : List Int)) (inner := [.int .i64 x7_1, .int .i64 t1130]) (ok := fun _ => True) (okp := fun _ => True) ?hr ?hp (fun _ hk => hk) trivial (Below.refl _ _) (Nat.le_refl _) (by simp) ?_; (case hd => rfl); (case hg => rfl); (case hr => first | (go_simp; done) | (go_simp; rfl)); (case hp => exact (Reps.one (show Kd.M (Kd.int .i64) _ _ _ x7_1 [.int .i64 x7_1] from rfl) (Reps.one (show Kd.M (Kd.int .i64) _ _ _ t1130 [.int .i64 t1130] from rfl) (Reps.none _ _)))); intro v1133 w21 ho22 hb hg_ hnew_; clear hg_ hnew_; (first | rw [← Ny1132.out] at ho22 | (simp only [Int.reduceToNat] at ho22; rw [← Ny1132.out] at ho22)); have n0_ := Aside0.mk (Kd.S_elder' (by (with_reducible repeat (first | apply Kd.S_alloc | apply Kd.S_drewN | apply Kd.S_drew)); exact HO_6.out) (Kd.R_base ho22) hb); have n1_ := Aside0.mk (Kd.R_lower ho22 (below_size (by repeat (first | (with_reducible first | exact HB.out | apply below_alloc | apply pw_below_drewN | apply below_drew1 | refine below_set ?_ GE1126.out) | exact HB.out)))); have n2_ := Aside0.mk (blk_below (g := gb1126) (o := .cells #[.slice A0_0 l0_0.length c0_0, .slice A0_1 l0_1.length c0_1, .slice A0_2 l0_2.length c0_2, .int .i64 a0_3, .int .i64 a0_4] 64 (0, 0)) (by (with_reducible repeat (first | refine blk_drewN ?_ _ | refine blk_drew ?_ | refine blk_alloc ?_ _)); exact BK1126.out) hb); have n3_ := Aside0.mk (below_step (by repeat (first | (with_reducible first | exact HB.out | apply below_alloc | apply pw_below_drewN | apply below_drew1 | refine below_set ?_ GE1126.out) | exact HB.out)) hb); clear HO_6; clear BK1126; clear HB; have HO_6 := n0_; have HO1134 := n1_; have BK1126 := n2_; have HB := n3_; clear n0_ n1_ n2_ n3_; clear hb ho22; obtain ⟨Ao24, co24, eo24⟩ := Kd.R_slice HO1134.out; subst eo24) | ((with_reducible refine gate_builtin (b := .append) (xs := #[.tmp 42, .tmp 46]) rfl ?_); at_builtin; refine Kd.S_append (Kd.slice 2 (Kd.int .i64)) (w0 := w) w.heap.size rfl (.tmp 42) (.tmp 46) 31 24 (.slice none 0 0) 24 rfl Try.underlying31 info24 rfl (by decide) (by omega) u6 x6_1 y1132 [.slice Ao24 y1132.length co24] (fun _ => True) (fun k_ => some k_ = (.slice Ao24 y1132.length co24 : Value).ownBlock) rfl rfl ?aP (fun k_ hk_ => ((Kd.R_mono (ok' := fun k_ => ((fun _ => True)) k_ ∧ some k_ ≠ (u6 : Value).ownBlock) (Kd.R_apart' (HO1134.out) (Kd.S_typed HO_6.out) (by decide)) (fun k_ hk => ⟨trivial, hk.2⟩))).1 k_ hk_.symm) ?aF ?aO ?aB ?aS ?aL ?_; (case aP => exact Kd.M_row (Kd.R_mono (Kd.R_tight rfl (Kd.R_mono (ok' := fun k_ => ((fun _ => True)) k_ ∧ some k_ ≠ (u6 : Value).ownBlock) (Kd.R_apart' (HO1134.out) (Kd.S_typed HO_6.out) (by decide)) (fun k_ hk => ⟨trivial, hk.2⟩))) (fun _ h_ => h_))); (case aB => exact (by repeat (first | (with_reducible first | exact HB.out | apply below_alloc | apply pw_below_drewN | apply below_drew1 | refine below_set ?_ GE1126.out) | exact HB.out))); (case aF => exact (fun _ _ => trivial)); (case aO => exact (by (with_reducible repeat (first | apply Kd.S_alloc | apply Kd.S_drewN | apply Kd.S_drew)); exact Kd.S_mono HO_6.out (fun k_ hk => ⟨trivial, fun e_ => hk.2 e_⟩))); (case aS => exact (below_size (by repeat (first | (with_reducible first | exact HB.out | apply below_alloc | apply pw_below_drewN | apply below_drew1 | refine below_set ?_ GE1126.out) | exact HB.out)))); (case aL => have := LMc20.out; omega); intro v1136 w23 ho hb hg hat; rw [← Ny1135.out] at ho; have n0_ := Aside0.mk (blk_grown (g := gb1126) (o := .cells #[.slice A0_0 l0_0.length c0_0, .slice A0_1 l0_1.length c0_1, .slice A0_2 l0_2.length c0_2, .int .i64 a0_3, .int .i64 a0_4] 64 (0, 0)) (by (with_reducible repeat (first | refine blk_drewN ?_ _ | refine blk_drew ?_ | refine blk_alloc ?_ _)); exact BK1126.out) hg (Kd.S_ne HO_6.out BK1126.out (by decide))); have n1_ := Aside0.mk (hb); have n2_ := Aside0.mk (ho); clear BK1126; clear HB; clear HO_6; clear HO1134; have BK1126 := n0_; have HB := n1_; have HO1137 := n2_; clear n0_ n1_ n2_; clear ho hb hg hat))
         go_roundg k2
         case measure => have := HK1.out; have := HK2.out; omega
         case rel => exact ⟨(y1135), (x9_2), (by first | rfl | (simp; done) | (simp [*]; done) | (simp [Int.tdiv_eq_ediv_of_nonneg, *]; done)), H', ⟨by have := HK1.out; have := HK2.out; omega⟩, ⟨by (with_reducible repeat (first | apply Kd.S_alloc | apply Kd.S_drewN | apply Kd.S_drew)); exact HO1137.out⟩, ⟨by (with_reducible repeat (first | refine blk_drewN ?_ _ | refine blk_drew ?_ | refine blk_alloc ?_ _)); exact BK1126.out⟩, ⟨by repeat (first | (with_reducible first | exact HB.out | apply below_alloc | apply pw_below_drewN | apply below_drew1 | refine below_set ?_ GE1126.out) | exact HB.out)⟩⟩
        ·rw [if_neg c20] at H
         exact absurd H (by simp)

end Go.Proofs.Ytajndapolblhmab.P
namespace Go.Proofs.Ytajndapolblhmab.P
open Go.RowKit Go.Proofs.YtajndapolblhmabW.PrintWords Go.Proofs.YtajndapolblhmabW.PrintLast Go.Proofs.YtajndapolblhmabW.PrintMore
attribute [local go_sem] max2_int min2_int max_two min_two max_three min_three max_four min_four   -- for this text's walks alone
set_option linter.unusedVariables false
set_option linter.unusedSimpArgs false

def impl_BoundOf.l0 : Nat → Int → Int → Int → Int → List (S79) → List Int → List Int → Int → Int → Option (Int × Bool)
 | 0, _, _, _, _, _, _, _, _, _ => none
 | k + 1, x4, x5, x14, x15, x1139000, x1139001, x1139002, x1139003, x1139004 => if x15 < x14 then ((impl_Head_needs.f k x1139000 x1139001 x1139002 x1139003 x1139004 x15).bind fun bt1140 => (if bt1140.2 = true then (impl_BoundOf.l0 k (wrap64 (x4 + (bt1140.1.length : Int))) (mx x5 (bt1140.1.length : Int)) x14 (wrap64 (x15 + 1)) x1139000 x1139001 x1139002 x1139003 x1139004) else (some (0, false)))) else (some (wrap64 ((wrap64 (x1139004 * x4)) + (wrap64 (x1139003 * x5))), true))
def impl_BoundOf.f (k : Nat) (l0_0 : List (S79)) (l0_1 : List Int) (l0_2 : List Int) (a0_3 : Int) (a0_4 : Int) : Option (Int × Bool) := (impl_ValidHead.f k l0_0 l0_1 l0_2 a0_3 a0_4).bind fun t1139 => (if t1139 = true then (impl_BoundOf.l0 k 0 0 (l0_0.length : Int) 0 l0_0 l0_1 l0_2 a0_3 a0_4) else (some (0, false)))
set_option maxHeartbeats 8000000 in
set_option maxRecDepth 100000 in
theorem impl_BoundOf.calls (k : Nat) (A0_0 : Option Addr) (c0_0 : Nat) (l0_0 : List (S79)) (A0_1 : Option Addr) (c0_1 : Nat) (l0_1 : List Int) (A0_2 : Option Addr) (c0_2 : Nat) (l0_2 : List Int) (a0_3 : Int) (a0_4 : Int) (r1 : Int) (r2 : Bool) (w : World) (hr0_0 : Kd.C k79 w A0_0 l0_0.length l0_0) (hc0_0 : l0_0.length ≤ c0_0) (hr0_1 : Kd.C (Kd.int .i64) w A0_1 l0_1.length l0_1) (hc0_1 : l0_1.length ≤ c0_1) (hr0_2 : Kd.C (Kd.int .i64) w A0_2 l0_2.length l0_2) (hc0_2 : l0_2.length ≤ c0_2) (h : impl_BoundOf.f k l0_0 l0_1 l0_2 a0_3 a0_4 = some (r1, r2)) :
  Calls Try.prog 70 #[.agg #[.slice A0_0 l0_0.length c0_0, .slice A0_1 l0_1.length c0_1, .slice A0_2 l0_2.length c0_2, .int .i64 a0_3, .int .i64 a0_4]] w fun e w' => e = .returned (.tuple #[.int .i64 r1, .bool r2]) ∧ Below w.heap.size w w' := by
 have hu64 := Try.underlying64
 have HR0_0 := Aside0.mk hr0_0
 have HC0_0 := Aside0.mk hc0_0
 clear hr0_0 hc0_0
 have HR0_1 := Aside0.mk hr0_1
 have HC0_1 := Aside0.mk hc0_1
 clear hr0_1 hc0_1
 have HR0_2 := Aside0.mk hr0_2
 have HC0_2 := Aside0.mk hc0_2
 clear hr0_2 hc0_2
 have HB := Aside0.mk (Below.refl w.heap.size w)
 have H : ((impl_ValidHead.f k l0_0 l0_1 l0_2 a0_3 a0_4).bind fun t1139 => (if t1139 = true then (impl_BoundOf.l0 k 0 0 (l0_0.length : Int) 0 l0_0 l0_1 l0_2 a0_3 a0_4) else (some (0, false)))) = some (r1, r2) := h
 clear h
 replace H := Option.bind_eq_some_iff.mp H
 obtain ⟨t1139, A20, H⟩ := H
 replace H : (if t1139 = true then (impl_BoundOf.l0 k 0 0 (l0_0.length : Int) 0 l0_0 l0_1 l0_2 a0_3 a0_4) else (some (0, false))) = some (r1, r2) := H
 have A2 := Aside0.mk A20
 clear A20
 by_cases c3 : t1139 = true
 ·subst c3
  have H1 : (impl_BoundOf.l0 k 0 0 (l0_0.length : Int) 0 l0_0 l0_1 l0_2 a0_3 a0_4) = some (r1, r2) := by rw [if_pos rfl] at H; exact H
  clear H
  have H := H1
  clear H1
  have H' := Aside0.mk H
  clear H
  go_enter Try.func70, Try.ntmps70
  go_wp2_with (first | ((with_reducible refine gate_dst (N := 1) rfl ?_); refine box_event ?hg (N := 1) ?hd (cs := #[.slice A0_0 l0_0.length c0_0, .slice A0_1 l0_1.length c0_1, .slice A0_2 l0_2.length c0_2, .int .i64 a0_3, .int .i64 a0_4]) (t := 64) ?hr ?_; (case hd => rfl); (case hg => rfl); (case hr => first | (go_simp; done) | (go_simp; rfl)); intro gb1138 hg w4 hbox hb; have n0_ := Aside0.mk (below_step (by repeat (first | (with_reducible first | exact HB.out | apply below_alloc | apply pw_below_drewN | apply below_drew1) | exact HB.out)) hb); have n1_ := Aside0.mk (hbox); have n2_ := Aside0.mk ((by rw [hg]; exact (below_size (by repeat (first | (with_reducible first | exact HB.out | apply below_alloc | apply pw_below_drewN | apply below_drew1) | exact HB.out))) : w.heap.size ≤ gb1138)); have n3_ := Aside0.mk ((by rw [hg]; exact (below_size (by repeat (first | (with_reducible first | exact HB.out | apply below_alloc | apply pw_below_drewN | apply below_drew1) | exact HB.out))) : w.heap.size ≤ gb1138)); clear HB; have HB := n0_; have BK1138 := n1_; have GW1138 := n2_; have GE1138 := n3_; clear n0_ n1_ n2_ n3_; clear hb hbox hg; have hcz5_0 : w4.cell? ⟨gb1138, 0, none⟩ = some (.slice A0_0 l0_0.length c0_0) := (blk_cell BK1138.out 0).trans rfl; have hcz5_1 : w4.cell? ⟨gb1138, 1, none⟩ = some (.slice A0_1 l0_1.length c0_1) := (blk_cell BK1138.out 1).trans rfl; have hcz5_2 : w4.cell? ⟨gb1138, 2, none⟩ = some (.slice A0_2 l0_2.length c0_2) := (blk_cell BK1138.out 2).trans rfl; have hcz5_3 : w4.cell? ⟨gb1138, 3, none⟩ = some (.int .i64 a0_3) := (blk_cell BK1138.out 3).trans rfl; have hcz5_4 : w4.cell? ⟨gb1138, 4, none⟩ = some (.int .i64 a0_4) := (blk_cell BK1138.out 4).trans rfl; have hfz5_0 := blk_frozen BK1138.out 0; have hfz5_1 := blk_frozen BK1138.out 1; have hfz5_2 := blk_frozen BK1138.out 2; have hfz5_3 := blk_frozen BK1138.out 3; have hfz5_4 := blk_frozen BK1138.out 4) | ((with_reducible refine gate_callee (f := 40) rfl ?_); refine goesL_ (some 10) rfl rfl Try.func40 (by kernel_rfl) rfl #[.agg #[.slice A0_0 l0_0.length c0_0, .slice A0_1 l0_1.length c0_1, .slice A0_2 l0_2.length c0_2, .int .i64 a0_3, .int .i64 a0_4]] rfl (by (try simp only [List.map_toArray, List.map_cons, List.map_nil]); first | done | rfl | (simp only [List.length_drop, List.length_take]; rfl)) ?_; (with_reducible refine (impl_ValidHead.calls k _ _ l0_0 _ _ l0_1 _ _ l0_2 a0_3 a0_4 true _ ?side1 ?side2 ?side3 ?side4 ?side5 ?side6 A2.out).mono ?_); (case side1 => repeat (first | exact (Kd.C_below HR0_0.out HB.out) | (with_reducible refine Kd.C_alloc ?_ _) | (with_reducible refine Kd.C_drewN ?_ _) | (with_reducible refine Kd.C_drew ?_))); (case side2 => exact HC0_0.out); (case side3 => repeat (first | exact (Kd.C_below HR0_1.out HB.out) | (with_reducible refine Kd.C_alloc ?_ _) | (with_reducible refine Kd.C_drewN ?_ _) | (with_reducible refine Kd.C_drew ?_))); (case side4 => exact HC0_1.out); (case side5 => repeat (first | exact (Kd.C_below HR0_2.out HB.out) | (with_reducible refine Kd.C_alloc ?_ _) | (with_reducible refine Kd.C_drewN ?_ _) | (with_reducible refine Kd.C_drew ?_))); (case side6 => exact HC0_2.out); rintro e w6 ⟨rfl, hb⟩; refine ⟨_, rfl, ?_⟩; have n0_ := Aside0.mk (blk_below (g := gb1138) (o := .cells #[.slice A0_0 l0_0.length c0_0, .slice A0_1 l0_1.length c0_1, .slice A0_2 l0_2.length c0_2, .int .i64 a0_3, .int .i64 a0_4] 64 (0, 0)) (by (with_reducible repeat (first | refine blk_drewN ?_ _ | refine blk_drew ?_ | refine blk_alloc ?_ _)); exact BK1138.out) hb); have n1_ := Aside0.mk (below_step (by repeat (first | (with_reducible first | exact HB.out | apply below_alloc | apply pw_below_drewN | apply below_drew1 | refine below_set ?_ GE1138.out) | exact HB.out)) hb); clear BK1138; clear HB; have BK1138 := n0_; have HB := n1_; clear n0_ n1_; (try clear hb); (try clear hb2); (try clear hk); (try clear hi); have hcz7_0 : w6.cell? ⟨gb1138, 0, none⟩ = some (.slice A0_0 l0_0.length c0_0) := (blk_cell BK1138.out 0).trans rfl; have hcz7_1 : w6.cell? ⟨gb1138, 1, none⟩ = some (.slice A0_1 l0_1.length c0_1) := (blk_cell BK1138.out 1).trans rfl; have hcz7_2 : w6.cell? ⟨gb1138, 2, none⟩ = some (.slice A0_2 l0_2.length c0_2) := (blk_cell BK1138.out 2).trans rfl; have hcz7_3 : w6.cell? ⟨gb1138, 3, none⟩ = some (.int .i64 a0_3) := (blk_cell BK1138.out 3).trans rfl; have hcz7_4 : w6.cell? ⟨gb1138, 4, none⟩ = some (.int .i64 a0_4) := (blk_cell BK1138.out 4).trans rfl; have hfz7_0 := blk_frozen BK1138.out 0; have hfz7_1 := blk_frozen BK1138.out 1; have hfz7_2 := blk_frozen BK1138.out 2; have hfz7_3 := blk_frozen BK1138.out 3; have hfz7_4 := blk_frozen BK1138.out 4))
  go_loopg [4, 5, 15] k (fun kq v4 v5 v15 w' => ∃ (x4_1 : Int) (x5_1 : Int) (x15_1 : Int), v4 = .int .i64 x4_1 ∧ v5 = .int .i64 x5_1 ∧ v15 = .int .i64 x15_1 ∧ Aside0 (impl_BoundOf.l0 kq x4_1 x5_1 (l0_0.length : Int) x15_1 l0_0 l0_1 l0_2 a0_3 a0_4 = some (r1, r2)) ∧ Aside0 (kq ≤ k) ∧ Aside0 (w'.heap[gb1138]? = some (.cells #[(.slice A0_0 l0_0.length c0_0), (.slice A0_1 l0_1.length c0_1), (.slice A0_2 l0_2.length c0_2), .int .i64 a0_3, .int .i64 a0_4] 64 (0, 0))) ∧ Aside0 (Below w.heap.size w w'))
  case atStart => exact ⟨(0), (0), (0), (by first | rfl | (simp; done) | (simp [*]; done) | (simp [Int.tdiv_eq_ediv_of_nonneg, *]; done)), (by first | rfl | (simp; done) | (simp [*]; done) | (simp [Int.tdiv_eq_ediv_of_nonneg, *]; done)), (by first | rfl | (simp; done) | (simp [*]; done) | (simp [Int.tdiv_eq_ediv_of_nonneg, *]; done)), H', ⟨Nat.le_refl _⟩, ⟨by (with_reducible repeat (first | refine blk_drewN ?_ _ | refine blk_drew ?_ | refine blk_alloc ?_ _)); exact BK1138.out⟩, ⟨by repeat (first | (with_reducible first | exact HB.out | apply below_alloc | apply pw_below_drewN | apply below_drew1 | refine below_set ?_ GE1138.out) | exact HB.out)⟩⟩
  case round =>
   clear H'
   try clear p2
   try clear c3
   try clear c4
   try clear c7
   try clear hcz5_0
   try clear hcz5_1
   try clear hcz5_2
   try clear hcz5_3
   try clear hcz5_4
   try clear hcz7_0
   try clear hcz7_1
   try clear hcz7_2
   try clear hcz7_3
   try clear hcz7_4
   try clear hfz5_0
   try clear hfz5_1
   try clear hfz5_2
   try clear hfz5_3
   try clear hfz5_4
   try clear hfz7_0
   try clear hfz7_1
   try clear hfz7_2
   try clear hfz7_3
   try clear hfz7_4
   obtain ⟨x4_1, x5_1, x15_1, rfl, rfl, rfl, HA, HK1, BK1138, HB⟩ := hrel
   cases gk with
   | zero => exact absurd HA.out (by simp [impl_BoundOf.l0])
   | succ k1 =>
    have H := HA.out
    clear HA
    simp only [impl_BoundOf.l0] at H
    by_cases c8 : x15_1 < (l0_0.length : Int)
    ·rw [if_pos c8] at H
     have c8b0 : decide (x15_1 < (l0_0.length : Int)) = true := decide_eq_true c8
     clear c8
     replace H := Option.bind_eq_some_iff.mp H
     obtain ⟨⟨t1140, t1143⟩, A90, H⟩ := H
     replace H : (if t1143 = true then (impl_BoundOf.l0 k1 (wrap64 (x4_1 + (t1140.length : Int))) (mx x5_1 (t1140.length : Int)) (l0_0.length : Int) (wrap64 (x15_1 + 1)) l0_0 l0_1 l0_2 a0_3 a0_4) else (some (0, false))) = some (r1, r2) := H
     have A9 := Aside0.mk A90
     clear A90
     by_cases c10 : t1143 = true
     ·subst c10
      have H1 : (impl_BoundOf.l0 k1 (wrap64 (x4_1 + (t1140.length : Int))) (mx x5_1 (t1140.length : Int)) (l0_0.length : Int) (wrap64 (x15_1 + 1)) l0_0 l0_1 l0_2 a0_3 a0_4) = some (r1, r2) := by rw [if_pos rfl] at H; exact H
      clear H
      have H := H1
      clear H1
      obtain ⟨ji11, hji11⟩ : ∃ j_ : Int, (mx x5_1 (t1140.length : Int)) = j_ := ⟨_, rfl⟩
      replace H : (impl_BoundOf.l0 k1 (wrap64 (x4_1 + (t1140.length : Int))) ji11 (l0_0.length : Int) (wrap64 (x15_1 + 1)) l0_0 l0_1 l0_2 a0_3 a0_4) = some (r1, r2) := by first | (rw [hji11] at H; exact H) | (simp only [hji11] at H ⊢; exact H)
      (try rw [hji11] at A9)
      have hji11_ : (if x5_1 < (t1140.length : Int) then (t1140.length : Int) else x5_1) = ji11 := hji11
      have H' := Aside0.mk H
      clear H
      have hcz12_0 : wr.cell? ⟨gb1138, 0, none⟩ = some (.slice A0_0 l0_0.length c0_0) := (blk_cell BK1138.out 0).trans rfl
      have hcz12_1 : wr.cell? ⟨gb1138, 1, none⟩ = some (.slice A0_1 l0_1.length c0_1) := (blk_cell BK1138.out 1).trans rfl
      have hcz12_2 : wr.cell? ⟨gb1138, 2, none⟩ = some (.slice A0_2 l0_2.length c0_2) := (blk_cell BK1138.out 2).trans rfl
      have hcz12_3 : wr.cell? ⟨gb1138, 3, none⟩ = some (.int .i64 a0_3) := (blk_cell BK1138.out 3).trans rfl
      have hcz12_4 : wr.cell? ⟨gb1138, 4, none⟩ = some (.int .i64 a0_4) := (blk_cell BK1138.out 4).trans rfl
      have hfz12_0 := blk_frozen BK1138.out 0
      have hfz12_1 := blk_frozen BK1138.out 1
      have hfz12_2 := blk_frozen BK1138.out 2
      have hfz12_3 := blk_frozen BK1138.out 3
      have hfz12_4 := blk_frozen BK1138.out 4
      go_wp2_with (first | ((with_reducible refine gate_callee (f := 127) rfl ?_); refine goesL_ (some 21) rfl rfl Try.func127 (by kernel_rfl) rfl #[.agg #[.slice A0_0 l0_0.length c0_0, .slice A0_1 l0_1.length c0_1, .slice A0_2 l0_2.length c0_2, .int .i64 a0_3, .int .i64 a0_4], .int .i64 x15_1] rfl (by (try simp only [List.map_toArray, List.map_cons, List.map_nil]); first | done | rfl | (simp only [List.length_drop, List.length_take]; rfl)) ?_; (with_reducible refine (impl_Head_needs.calls k1 _ _ l0_0 _ _ l0_1 _ _ l0_2 a0_3 a0_4 x15_1 t1140 true _ ?side1 ?side2 ?side3 ?side4 ?side5 ?side6 A9.out).mono ?_); (case side1 => repeat (first | exact (Kd.C_below HR0_0.out HB.out) | (with_reducible refine Kd.C_alloc ?_ _) | (with_reducible refine Kd.C_drewN ?_ _) | (with_reducible refine Kd.C_drew ?_))); (case side2 => exact HC0_0.out); (case side3 => repeat (first | exact (Kd.C_below HR0_1.out HB.out) | (with_reducible refine Kd.C_alloc ?_ _) | (with_reducible refine Kd.C_drewN ?_ _) | (with_reducible refine Kd.C_drew ?_))); (case side4 => exact HC0_1.out); (case side5 => repeat (first | exact (Kd.C_below HR0_2.out HB.out) | (with_reducible refine Kd.C_alloc ?_ _) | (with_reducible refine Kd.C_drewN ?_ _) | (with_reducible refine Kd.C_drew ?_))); (case side6 => exact HC0_2.out); rintro e w13 ⟨v1141, rfl, ho0, hb⟩; refine ⟨_, rfl, ?_⟩; have n0_ := Aside0.mk (Kd.S_lower ho0 (below_size (by repeat (first | (with_reducible first | exact HB.out | apply below_alloc | apply pw_below_drewN | apply below_drew1 | refine below_set ?_ GE1138.out) | exact HB.out)))); have n1_ := Aside0.mk (blk_below (g := gb1138) (o := .cells #[.slice A0_0 l0_0.length c0_0, .slice A0_1 l0_1.length c0_1, .slice A0_2 l0_2.length c0_2, .int .i64 a0_3, .int .i64 a0_4] 64 (0, 0)) (by (with_reducible repeat (first | refine blk_drewN ?_ _ | refine blk_drew ?_ | refine blk_alloc ?_ _)); exact BK1138.out) hb); have n2_ := Aside0.mk (below_step (by repeat (first | (with_reducible first | exact HB.out | apply below_alloc | apply pw_below_drewN | apply below_drew1 | refine below_set ?_ GE1138.out) | exact HB.out)) hb); clear BK1138; clear HB; have HO1142 := n0_; have BK1138 := n1_; have HB := n2_; clear n0_ n1_ n2_; (try clear hb); (try clear hb2); (try clear hk); (try clear hi); (try clear ho0); obtain ⟨Ao14, co14, eo14⟩ := Kd.S_slice HO1142.out; subst eo14))
      go_roundg k1
      case measure => have := HK1.out; omega
      case rel => exact ⟨(wrap64 (x4_1 + (t1140.length : Int))), (ji11), (wrap64 (x15_1 + 1)), (by first | rfl | (simp; done) | (simp [*]; done) | (simp [Int.tdiv_eq_ediv_of_nonneg, *]; done)), (by first | rfl | (simp; done) | (simp only [← hji11] <;> (first | rfl | simp)) | (simp [*]; done)), (by first | rfl | (simp; done) | (simp [*]; done) | (simp [Int.tdiv_eq_ediv_of_nonneg, *]; done)), H', ⟨by have := HK1.out; omega⟩, ⟨by (with_reducible repeat (first | refine blk_drewN ?_ _ | refine blk_drew ?_ | refine blk_alloc ?_ _)); exact BK1138.out⟩, ⟨by repeat (first | (with_reducible first | exact HB.out | apply below_alloc | apply pw_below_drewN | apply below_drew1 | refine below_set ?_ GE1138.out) | exact HB.out)⟩⟩
     ·replace c10 := Bool.eq_false_iff.mpr c10
      subst c10
      have H1 : (some (0, false)) = some (r1, r2) := by rw [if_neg (show ¬ (false = true) by decide)] at H; exact H
      clear H
      have H := H1
      clear H1
      simp only [Option.some.injEq, Prod.mk.injEq] at H
      obtain ⟨rfl, rfl⟩ := H
      have hcz15_0 : wr.cell? ⟨gb1138, 0, none⟩ = some (.slice A0_0 l0_0.length c0_0) := (blk_cell BK1138.out 0).trans rfl
      have hcz15_1 : wr.cell? ⟨gb1138, 1, none⟩ = some (.slice A0_1 l0_1.length c0_1) := (blk_cell BK1138.out 1).trans rfl
      have hcz15_2 : wr.cell? ⟨gb1138, 2, none⟩ = some (.slice A0_2 l0_2.length c0_2) := (blk_cell BK1138.out 2).trans rfl
      have hcz15_3 : wr.cell? ⟨gb1138, 3, none⟩ = some (.int .i64 a0_3) := (blk_cell BK1138.out 3).trans rfl
      have hcz15_4 : wr.cell? ⟨gb1138, 4, none⟩ = some (.int .i64 a0_4) := (blk_cell BK1138.out 4).trans rfl
      have hfz15_0 := blk_frozen BK1138.out 0
      have hfz15_1 := blk_frozen BK1138.out 1
      have hfz15_2 := blk_frozen BK1138.out 2
      have hfz15_3 := blk_frozen BK1138.out 3
      have hfz15_4 := blk_frozen BK1138.out 4
      go_wp2_with (first | ((with_reducible refine gate_callee (f := 127) rfl ?_); refine goesL_ (some 21) rfl rfl Try.func127 (by kernel_rfl) rfl #[.agg #[.slice A0_0 l0_0.length c0_0, .slice A0_1 l0_1.length c0_1, .slice A0_2 l0_2.length c0_2, .int .i64 a0_3, .int .i64 a0_4], .int .i64 x15_1] rfl (by (try simp only [List.map_toArray, List.map_cons, List.map_nil]); first | done | rfl | (simp only [List.length_drop, List.length_take]; rfl)) ?_; (with_reducible refine (impl_Head_needs.calls k1 _ _ l0_0 _ _ l0_1 _ _ l0_2 a0_3 a0_4 x15_1 t1140 false _ ?side1 ?side2 ?side3 ?side4 ?side5 ?side6 A9.out).mono ?_); (case side1 => repeat (first | exact (Kd.C_below HR0_0.out HB.out) | (with_reducible refine Kd.C_alloc ?_ _) | (with_reducible refine Kd.C_drewN ?_ _) | (with_reducible refine Kd.C_drew ?_))); (case side2 => exact HC0_0.out); (case side3 => repeat (first | exact (Kd.C_below HR0_1.out HB.out) | (with_reducible refine Kd.C_alloc ?_ _) | (with_reducible refine Kd.C_drewN ?_ _) | (with_reducible refine Kd.C_drew ?_))); (case side4 => exact HC0_1.out); (case side5 => repeat (first | exact (Kd.C_below HR0_2.out HB.out) | (with_reducible refine Kd.C_alloc ?_ _) | (with_reducible refine Kd.C_drewN ?_ _) | (with_reducible refine Kd.C_drew ?_))); (case side6 => exact HC0_2.out); rintro e w16 ⟨v1141, rfl, ho0, hb⟩; refine ⟨_, rfl, ?_⟩; have n0_ := Aside0.mk (Kd.S_lower ho0 (below_size (by repeat (first | (with_reducible first | exact HB.out | apply below_alloc | apply pw_below_drewN | apply below_drew1 | refine below_set ?_ GE1138.out) | exact HB.out)))); have n1_ := Aside0.mk (blk_below (g := gb1138) (o := .cells #[.slice A0_0 l0_0.length c0_0, .slice A0_1 l0_1.length c0_1, .slice A0_2 l0_2.length c0_2, .int .i64 a0_3, .int .i64 a0_4] 64 (0, 0)) (by (with_reducible repeat (first | refine blk_drewN ?_ _ | refine blk_drew ?_ | refine blk_alloc ?_ _)); exact BK1138.out) hb); have n2_ := Aside0.mk (below_step (by repeat (first | (with_reducible first | exact HB.out | apply below_alloc | apply pw_below_drewN | apply below_drew1 | refine below_set ?_ GE1138.out) | exact HB.out)) hb); clear BK1138; clear HB; have HO1142 := n0_; have BK1138 := n1_; have HB := n2_; clear n0_ n1_ n2_; (try clear hb); (try clear hb2); (try clear hk); (try clear hi); (try clear ho0)))
      go_ret2
      exact ⟨by first | rfl | (simp [errW_none, errW_some] <;> rfl) | (simp [*, errW_none, errW_some] <;> rfl) | (simp [Int.tdiv_eq_ediv_of_nonneg, *]; done), by repeat (first | (with_reducible first | exact HB.out | apply below_alloc | apply pw_below_drewN | apply below_drew1 | refine below_set ?_ GE1138.out) | exact HB.out)⟩
    ·rw [if_neg c8] at H
     have c8b0 : decide (x15_1 < (l0_0.length : Int)) = false := decide_eq_false c8
     clear c8
     simp only [Option.some.injEq, Prod.mk.injEq] at H
     obtain ⟨rfl, rfl⟩ := H
     have hcz17_0 : wr.cell? ⟨gb1138, 0, none⟩ = some (.slice A0_0 l0_0.length c0_0) := (blk_cell BK1138.out 0).trans rfl
     have hcz17_1 : wr.cell? ⟨gb1138, 1, none⟩ = some (.slice A0_1 l0_1.length c0_1) := (blk_cell BK1138.out 1).trans rfl
     have hcz17_2 : wr.cell? ⟨gb1138, 2, none⟩ = some (.slice A0_2 l0_2.length c0_2) := (blk_cell BK1138.out 2).trans rfl
     have hcz17_3 : wr.cell? ⟨gb1138, 3, none⟩ = some (.int .i64 a0_3) := (blk_cell BK1138.out 3).trans rfl
     have hcz17_4 : wr.cell? ⟨gb1138, 4, none⟩ = some (.int .i64 a0_4) := (blk_cell BK1138.out 4).trans rfl
     have hfz17_0 := blk_frozen BK1138.out 0
     have hfz17_1 := blk_frozen BK1138.out 1
     have hfz17_2 := blk_frozen BK1138.out 2
     have hfz17_3 := blk_frozen BK1138.out 3
     have hfz17_4 := blk_frozen BK1138.out 4
     go_wp2
     go_ret2
     exact ⟨by first | rfl | (simp [errW_none, errW_some] <;> rfl) | (simp [*, errW_none, errW_some] <;> rfl) | (simp [Int.tdiv_eq_ediv_of_nonneg, *]; done), by repeat (first | (with_reducible first | exact HB.out | apply below_alloc | apply pw_below_drewN | apply below_drew1 | refine below_set ?_ GE1138.out) | exact HB.out)⟩
 ·replace c3 := Bool.eq_false_iff.mpr c3
  subst c3
  have H1 : (some (0, false)) = some (r1, r2) := by rw [if_neg (show ¬ (false = true) by decide)] at H; exact H
  clear H
  have H := H1
  clear H1
  simp only [Option.some.injEq, Prod.mk.injEq] at H
  obtain ⟨rfl, rfl⟩ := H
  go_enter Try.func70, Try.ntmps70
  go_wp2_with (first | ((with_reducible refine gate_dst (N := 1) rfl ?_); refine box_event ?hg (N := 1) ?hd (cs := #[.slice A0_0 l0_0.length c0_0, .slice A0_1 l0_1.length c0_1, .slice A0_2 l0_2.length c0_2, .int .i64 a0_3, .int .i64 a0_4]) (t := 64) ?hr ?_; (case hd => rfl); (case hg => rfl); (case hr => first | (go_simp; done) | (go_simp; rfl)); intro gb1138 hg w18 hbox hb; have n0_ := Aside0.mk (below_step (by repeat (first | (with_reducible first | exact HB.out | apply below_alloc | apply pw_below_drewN | apply below_drew1) | exact HB.out)) hb); have n1_ := Aside0.mk (hbox); have n2_ := Aside0.mk ((by rw [hg]; exact (below_size (by repeat (first | (with_reducible first | exact HB.out | apply below_alloc | apply pw_below_drewN | apply below_drew1) | exact HB.out))) : w.heap.size ≤ gb1138)); have n3_ := Aside0.mk ((by rw [hg]; exact (below_size (by repeat (first | (with_reducible first | exact HB.out | apply below_alloc | apply pw_below_drewN | apply below_drew1) | exact HB.out))) : w.heap.size ≤ gb1138)); clear HB; have HB := n0_; have BK1138 := n1_; have GW1138 := n2_; have GE1138 := n3_; clear n0_ n1_ n2_ n3_; clear hb hbox hg; have hcz19_0 : w18.cell? ⟨gb1138, 0, none⟩ = some (.slice A0_0 l0_0.length c0_0) := (blk_cell BK1138.out 0).trans rfl; have hcz19_1 : w18.cell? ⟨gb1138, 1, none⟩ = some (.slice A0_1 l0_1.length c0_1) := (blk_cell BK1138.out 1).trans rfl; have hcz19_2 : w18.cell? ⟨gb1138, 2, none⟩ = some (.slice A0_2 l0_2.length c0_2) := (blk_cell BK1138.out 2).trans rfl; have hcz19_3 : w18.cell? ⟨gb1138, 3, none⟩ = some (.int .i64 a0_3) := (blk_cell BK1138.out 3).trans rfl; have hcz19_4 : w18.cell? ⟨gb1138, 4, none⟩ = some (.int .i64 a0_4) := (blk_cell BK1138.out 4).trans rfl; have hfz19_0 := blk_frozen BK1138.out 0; have hfz19_1 := blk_frozen BK1138.out 1; have hfz19_2 := blk_frozen BK1138.out 2; have hfz19_3 := blk_frozen BK1138.out 3; have hfz19_4 := blk_frozen BK1138.out 4) | ((with_reducible refine gate_callee (f := 40) rfl ?_); refine goesL_ (some 10) rfl rfl Try.func40 (by kernel_rfl) rfl #[.agg #[.slice A0_0 l0_0.length c0_0, .slice A0_1 l0_1.length c0_1, .slice A0_2 l0_2.length c0_2, .int .i64 a0_3, .int .i64 a0_4]] rfl (by (try simp only [List.map_toArray, List.map_cons, List.map_nil]); first | done | rfl | (simp only [List.length_drop, List.length_take]; rfl)) ?_; (with_reducible refine (impl_ValidHead.calls k _ _ l0_0 _ _ l0_1 _ _ l0_2 a0_3 a0_4 false _ ?side1 ?side2 ?side3 ?side4 ?side5 ?side6 A2.out).mono ?_); (case side1 => repeat (first | exact (Kd.C_below HR0_0.out HB.out) | (with_reducible refine Kd.C_alloc ?_ _) | (with_reducible refine Kd.C_drewN ?_ _) | (with_reducible refine Kd.C_drew ?_))); (case side2 => exact HC0_0.out); (case side3 => repeat (first | exact (Kd.C_below HR0_1.out HB.out) | (with_reducible refine Kd.C_alloc ?_ _) | (with_reducible refine Kd.C_drewN ?_ _) | (with_reducible refine Kd.C_drew ?_))); (case side4 => exact HC0_1.out); (case side5 => repeat (first | exact (Kd.C_below HR0_2.out HB.out) | (with_reducible refine Kd.C_alloc ?_ _) | (with_reducible refine Kd.C_drewN ?_ _) | (with_reducible refine Kd.C_drew ?_))); (case side6 => exact HC0_2.out); rintro e w20 ⟨rfl, hb⟩; refine ⟨_, rfl, ?_⟩; have n0_ := Aside0.mk (blk_below (g := gb1138) (o := .cells #[.slice A0_0 l0_0.length c0_0, .slice A0_1 l0_1.length c0_1, .slice A0_2 l0_2.length c0_2, .int .i64 a0_3, .int .i64 a0_4] 64 (0, 0)) (by (with_reducible repeat (first | refine blk_drewN ?_ _ | refine blk_drew ?_ | refine blk_alloc ?_ _)); exact BK1138.out) hb); have n1_ := Aside0.mk (below_step (by repeat (first | (with_reducible first | exact HB.out | apply below_alloc | apply pw_below_drewN | apply below_drew1 | refine below_set ?_ GE1138.out) | exact HB.out)) hb); clear BK1138; clear HB; have BK1138 := n0_; have HB := n1_; clear n0_ n1_; (try clear hb); (try clear hb2); (try clear hk); (try clear hi)))
  go_ret2
  exact ⟨by first | rfl | (simp [errW_none, errW_some] <;> rfl) | (simp [*, errW_none, errW_some] <;> rfl) | (simp [Int.tdiv_eq_ediv_of_nonneg, *]; done), by repeat (first | (with_reducible first | exact HB.out | apply below_alloc | apply pw_below_drewN | apply below_drew1 | refine below_set ?_ GE1138.out) | exact HB.out)⟩

def laws_FnExactBoundOf.j0 : Nat → Bool → List (S171) → List Int → List Int → Int → Int → List (S79) → List Int → List Int → Int → Int → Option (Bool)
 | 0, _, _, _, _, _, _, _, _, _, _, _ => none
 | k + 1, x34, x1145000, x1145001, x1145002, x1145003, x1145004, x1171000, x1171001, x1171002, x1171003, x1171004 => if x34 = true then (some false) else ((laws_toHead.f k x1145000 x1145001 x1145002 x1145003 x1145004).bind fun bt1173 => ((laws_eqHead.f k x1171000 x1171001 x1171002 x1171003 x1171004 bt1173.1 bt1173.2.1 bt1173.2.2.1 bt1173.2.2.2.1 bt1173.2.2.2.2).bind fun t1184 => (if t1184 = true then (some true) else (some false))))
def laws_FnExactBoundOf.f (k : Nat) (l0_0 : List (S171)) (l0_1 : List Int) (l0_2 : List Int) (a0_3 : Int) (a0_4 : Int) : Option (Bool) := (laws_szHead.f l0_0 l0_1 l0_2 a0_3 a0_4 1048576).bind fun t1145 => (if t1145 < 0 then (some true) else ((laws_toHead.f k l0_0 l0_1 l0_2 a0_3 a0_4).bind fun bt1146 => ((spec_BoundOf.f k bt1146.1 bt1146.2.1 bt1146.2.2.1 bt1146.2.2.2.1 bt1146.2.2.2.2).bind fun bt1157 => ((laws_toHead.f k l0_0 l0_1 l0_2 a0_3 a0_4).bind fun bt1159 => ((impl_BoundOf.f k bt1159.1 bt1159.2.1 bt1159.2.2.1 bt1159.2.2.2.1 bt1159.2.2.2.2).bind fun bt1171 => (if bt1171.1 = bt1157.1 then (laws_FnExactBoundOf.j0 k (bt1171.2 != bt1157.2) l0_0 l0_1 l0_2 a0_3 a0_4 bt1159.1 bt1159.2.1 bt1159.2.2.1 bt1159.2.2.2.1 bt1159.2.2.2.2) else (laws_FnExactBoundOf.j0 k true l0_0 l0_1 l0_2 a0_3 a0_4 bt1159.1 bt1159.2.1 bt1159.2.2.1 bt1159.2.2.2.1 bt1159.2.2.2.2)))))))
set_option maxHeartbeats 8000000 in
set_option maxRecDepth 100000 in
theorem laws_FnExactBoundOf.calls (k : Nat) (A0_0 : Option Addr) (c0_0 : Nat) (l0_0 : List (S171)) (A0_1 : Option Addr) (c0_1 : Nat) (l0_1 : List Int) (A0_2 : Option Addr) (c0_2 : Nat) (l0_2 : List Int) (a0_3 : Int) (a0_4 : Int) (r : Bool) (w : World) (hr0_0 : Kd.C k171 w A0_0 l0_0.length l0_0) (hc0_0 : l0_0.length ≤ c0_0) (hr0_1 : Kd.C (Kd.int .i64) w A0_1 l0_1.length l0_1) (hc0_1 : l0_1.length ≤ c0_1) (hr0_2 : Kd.C (Kd.int .i64) w A0_2 l0_2.length l0_2) (hc0_2 : l0_2.length ≤ c0_2) (h : laws_FnExactBoundOf.f k l0_0 l0_1 l0_2 a0_3 a0_4 = some r) :
  Calls Try.prog 13 #[.agg #[.slice A0_0 l0_0.length c0_0, .slice A0_1 l0_1.length c0_1, .slice A0_2 l0_2.length c0_2, .int .i64 a0_3, .int .i64 a0_4]] w fun e w' => e = .returned (.bool r) ∧ Below w.heap.size w w' := by
 have hu59 := Try.underlying59
 have hu64 := Try.underlying64
 have HR0_0 := Aside0.mk hr0_0
 have HC0_0 := Aside0.mk hc0_0
 clear hr0_0 hc0_0
 have HR0_1 := Aside0.mk hr0_1
 have HC0_1 := Aside0.mk hc0_1
 clear hr0_1 hc0_1
 have HR0_2 := Aside0.mk hr0_2
 have HC0_2 := Aside0.mk hc0_2
 clear hr0_2 hc0_2
 have HB := Aside0.mk (Below.refl w.heap.size w)
 have H : ((laws_szHead.f l0_0 l0_1 l0_2 a0_3 a0_4 1048576).bind fun t1145 => (if t1145 < 0 then (some true) else ((laws_toHead.f k l0_0 l0_1 l0_2 a0_3 a0_4).bind fun bt1146 => ((spec_BoundOf.f k bt1146.1 bt1146.2.1 bt1146.2.2.1 bt1146.2.2.2.1 bt1146.2.2.2.2).bind fun bt1157 => ((laws_toHead.f k l0_0 l0_1 l0_2 a0_3 a0_4).bind fun bt1159 => ((impl_BoundOf.f k bt1159.1 bt1159.2.1 bt1159.2.2.1 bt1159.2.2.2.1 bt1159.2.2.2.2).bind fun bt1171 => (if bt1171.1 = bt1157.1 then (laws_FnExactBoundOf.j0 k (bt1171.2 != bt1157.2) l0_0 l0_1 l0_2 a0_3 a0_4 bt1159.1 bt1159.2.1 bt1159.2.2.1 bt1159.2.2.2.1 bt1159.2.2.2.2) else (laws_FnExactBoundOf.j0 k true l0_0 l0_1 l0_2 a0_3 a0_4 bt1159.1 bt1159.2.1 bt1159.2.2.1 bt1159.2.2.2.1 bt1159.2.2.2.2)))))))) = some r := h
 clear h
 replace H := Option.bind_eq_some_iff.mp H
 obtain ⟨t1145, A20, H⟩ := H
 replace H : (if t1145 < 0 then (some true) else ((laws_toHead.f k l0_0 l0_1 l0_2 a0_3 a0_4).bind fun bt1146 => ((spec_BoundOf.f k bt1146.1 bt1146.2.1 bt1146.2.2.1 bt1146.2.2.2.1 bt1146.2.2.2.2).bind fun bt1157 => ((laws_toHead.f k l0_0 l0_1 l0_2 a0_3 a0_4).bind fun bt1159 => ((impl_BoundOf.f k bt1159.1 bt1159.2.1 bt1159.2.2.1 bt1159.2.2.2.1 bt1159.2.2.2.2).bind fun bt1171 => (if bt1171.1 = bt1157.1 then (laws_FnExactBoundOf.j0 k (bt1171.2 != bt1157.2) l0_0 l0_1 l0_2 a0_3 a0_4 bt1159.1 bt1159.2.1 bt1159.2.2.1 bt1159.2.2.2.1 bt1159.2.2.2.2) else (laws_FnExactBoundOf.j0 k true l0_0 l0_1 l0_2 a0_3 a0_4 bt1159.1 bt1159.2.1 bt1159.2.2.1 bt1159.2.2.2.1 bt1159.2.2.2.2))))))) = some r := H
 have A2 := Aside0.mk A20
 clear A20
 by_cases c3 : t1145 < 0
 ·rw [if_pos c3] at H
  have c3b0 : decide (t1145 < 0) = true := decide_eq_true c3
  clear c3
  obtain rfl := Option.some.inj H
  go_enter Try.func13, Try.ntmps13
  go_wp2_with (first | ((with_reducible refine gate_dst (N := 1) rfl ?_); refine box_event ?hg (N := 1) ?hd (cs := #[.slice A0_0 l0_0.length c0_0, .slice A0_1 l0_1.length c0_1, .slice A0_2 l0_2.length c0_2, .int .i64 a0_3, .int .i64 a0_4]) (t := 59) ?hr ?_; (case hd => rfl); (case hg => rfl); (case hr => first | (go_simp; done) | (go_simp; rfl)); intro gb1144 hg w4 hbox hb; have n0_ := Aside0.mk (below_step (by repeat (first | (with_reducible first | exact HB.out | apply below_alloc | apply pw_below_drewN | apply below_drew1) | exact HB.out)) hb); have n1_ := Aside0.mk (hbox); have n2_ := Aside0.mk ((by rw [hg]; exact (below_size (by repeat (first | (with_reducible first | exact HB.out | apply below_alloc | apply pw_below_drewN | apply below_drew1) | exact HB.out))) : w.heap.size ≤ gb1144)); have n3_ := Aside0.mk ((by rw [hg]; exact (below_size (by repeat (first | (with_reducible first | exact HB.out | apply below_alloc | apply pw_below_drewN | apply below_drew1) | exact HB.out))) : w.heap.size ≤ gb1144)); clear HB; have HB := n0_; have BK1144 := n1_; have GW1144 := n2_; have GE1144 := n3_; clear n0_ n1_ n2_ n3_; clear hb hbox hg; have hcz5_0 : w4.cell? ⟨gb1144, 0, none⟩ = some (.slice A0_0 l0_0.length c0_0) := (blk_cell BK1144.out 0).trans rfl; have hcz5_1 : w4.cell? ⟨gb1144, 1, none⟩ = some (.slice A0_1 l0_1.length c0_1) := (blk_cell BK1144.out 1).trans rfl; have hcz5_2 : w4.cell? ⟨gb1144, 2, none⟩ = some (.slice A0_2 l0_2.length c0_2) := (blk_cell BK1144.out 2).trans rfl; have hcz5_3 : w4.cell? ⟨gb1144, 3, none⟩ = some (.int .i64 a0_3) := (blk_cell BK1144.out 3).trans rfl; have hcz5_4 : w4.cell? ⟨gb1144, 4, none⟩ = some (.int .i64 a0_4) := (blk_cell BK1144.out 4).trans rfl; have hfz5_0 := blk_frozen BK1144.out 0; have hfz5_1 := blk_frozen BK1144.out 1; have hfz5_2 := blk_frozen BK1144.out 2; have hfz5_3 := blk_frozen BK1144.out 3; have hfz5_4 := blk_frozen BK1144.out 4) | ((with_reducible refine gate_callee (f := 37) rfl ?_); refine goesL_ (some 11) rfl rfl Try.func37 (by kernel_rfl) rfl #[.agg #[.slice A0_0 l0_0.length c0_0, .slice A0_1 l0_1.length c0_1, .slice A0_2 l0_2.length c0_2, .int .i64 a0_3, .int .i64 a0_4], .int .i64 1048576] rfl (by (try simp only [List.map_toArray, List.map_cons, List.map_nil]); first | done | rfl | (simp only [List.length_drop, List.length_take]; rfl)) ?_; (with_reducible refine (laws_szHead.calls _ _ l0_0 _ _ l0_1 _ _ l0_2 a0_3 a0_4 1048576 t1145 _ ?side1 ?side2 ?side3 ?side4 ?side5 ?side6 A2.out).mono ?_); (case side1 => repeat (first | exact (Kd.C_below HR0_0.out HB.out) | (with_reducible refine Kd.C_alloc ?_ _) | (with_reducible refine Kd.C_drewN ?_ _) | (with_reducible refine Kd.C_drew ?_))); (case side2 => exact HC0_0.out); (case side3 => repeat (first | exact (Kd.C_below HR0_1.out HB.out) | (with_reducible refine Kd.C_alloc ?_ _) | (with_reducible refine Kd.C_drewN ?_ _) | (with_reducible refine Kd.C_drew ?_))); (case side4 => exact HC0_1.out); (case side5 => repeat (first | exact (Kd.C_below HR0_2.out HB.out) | (with_reducible refine Kd.C_alloc ?_ _) | (with_reducible refine Kd.C_drewN ?_ _) | (with_reducible refine Kd.C_drew ?_))); (case side6 => exact HC0_2.out); rintro e w6 ⟨rfl, hb⟩; refine ⟨_, rfl, ?_⟩; have n0_ := Aside0.mk (blk_below (g := gb1144) (o := .cells #[.slice A0_0 l0_0.length c0_0, .slice A0_1 l0_1.length c0_1, .slice A0_2 l0_2.length c0_2, .int .i64 a0_3, .int .i64 a0_4] 59 (0, 0)) (by (with_reducible repeat (first | refine blk_drewN ?_ _ | refine blk_drew ?_ | refine blk_alloc ?_ _)); exact BK1144.out) hb); have n1_ := Aside0.mk (below_step (by repeat (first | (with_reducible first | exact HB.out | apply below_alloc | apply pw_below_drewN | apply below_drew1 | refine below_set ?_ GE1144.out) | exact HB.out)) hb); clear BK1144; clear HB; have BK1144 := n0_; have HB := n1_; clear n0_ n1_; (try clear hb); (try clear hb2); (try clear hk); (try clear hi)))
  go_ret
  exact ⟨by first | rfl | (simp [errW_none, errW_some] <;> rfl) | (simp [*, errW_none, errW_some] <;> rfl) | (simp [Int.tdiv_eq_ediv_of_nonneg, *]; done), by repeat (first | (with_reducible first | exact HB.out | apply below_alloc | apply pw_below_drewN | apply below_drew1 | refine below_set ?_ GE1144.out) | exact HB.out)⟩
 ·rw [if_neg c3] at H
  have c3b0 : decide (t1145 < 0) = false := decide_eq_false c3
  clear c3
  replace H := Option.bind_eq_some_iff.mp H
  obtain ⟨⟨t1146, t1149, t1152, t1155, t1156⟩, A70, H⟩ := H
  replace H : ((spec_BoundOf.f k t1146 t1149 t1152 t1155 t1156).bind fun bt1157 => ((laws_toHead.f k l0_0 l0_1 l0_2 a0_3 a0_4).bind fun bt1159 => ((impl_BoundOf.f k bt1159.1 bt1159.2.1 bt1159.2.2.1 bt1159.2.2.2.1 bt1159.2.2.2.2).bind fun bt1171 => (if bt1171.1 = bt1157.1 then (laws_FnExactBoundOf.j0 k (bt1171.2 != bt1157.2) l0_0 l0_1 l0_2 a0_3 a0_4 bt1159.1 bt1159.2.1 bt1159.2.2.1 bt1159.2.2.2.1 bt1159.2.2.2.2) else (laws_FnExactBoundOf.j0 k true l0_0 l0_1 l0_2 a0_3 a0_4 bt1159.1 bt1159.2.1 bt1159.2.2.1 bt1159.2.2.2.1 bt1159.2.2.2.2))))) = some r := H
  have A7 := Aside0.mk A70
  clear A70
  replace H := Option.bind_eq_some_iff.mp H
  obtain ⟨⟨t1157, t1158⟩, A80, H⟩ := H
  replace H : ((laws_toHead.f k l0_0 l0_1 l0_2 a0_3 a0_4).bind fun bt1159 => ((impl_BoundOf.f k bt1159.1 bt1159.2.1 bt1159.2.2.1 bt1159.2.2.2.1 bt1159.2.2.2.2).bind fun bt1171 => (if bt1171.1 = t1157 then (laws_FnExactBoundOf.j0 k (bt1171.2 != t1158) l0_0 l0_1 l0_2 a0_3 a0_4 bt1159.1 bt1159.2.1 bt1159.2.2.1 bt1159.2.2.2.1 bt1159.2.2.2.2) else (laws_FnExactBoundOf.j0 k true l0_0 l0_1 l0_2 a0_3 a0_4 bt1159.1 bt1159.2.1 bt1159.2.2.1 bt1159.2.2.2.1 bt1159.2.2.2.2)))) = some r := H
  have A8 := Aside0.mk A80
  clear A80
  replace H := Option.bind_eq_some_iff.mp H
  obtain ⟨⟨t1159, t1162, t1165, t1168, t1169⟩, A90, H⟩ := H
  replace H : ((impl_BoundOf.f k t1159 t1162 t1165 t1168 t1169).bind fun bt1171 => (if bt1171.1 = t1157 then (laws_FnExactBoundOf.j0 k (bt1171.2 != t1158) l0_0 l0_1 l0_2 a0_3 a0_4 t1159 t1162 t1165 t1168 t1169) else (laws_FnExactBoundOf.j0 k true l0_0 l0_1 l0_2 a0_3 a0_4 t1159 t1162 t1165 t1168 t1169))) = some r := H
  have A9 := Aside0.mk A90
  clear A90
  replace H := Option.bind_eq_some_iff.mp H
  obtain ⟨⟨t1171, t1172⟩, A100, H⟩ := H
  replace H : (if t1171 = t1157 then (laws_FnExactBoundOf.j0 k (t1172 != t1158) l0_0 l0_1 l0_2 a0_3 a0_4 t1159 t1162 t1165 t1168 t1169) else (laws_FnExactBoundOf.j0 k true l0_0 l0_1 l0_2 a0_3 a0_4 t1159 t1162 t1165 t1168 t1169)) = some r := H
  have A10 := Aside0.mk A100
  clear A100
  have HC11 := Aside0.mk H
  clear H
  go_enter Try.func13, Try.ntmps13
  go_upto_region 8 with (first | ((with_reducible refine gate_dst (N := 1) rfl ?_); refine box_event ?hg (N := 1) ?hd (cs := #[.slice A0_0 l0_0.length c0_0, .slice A0_1 l0_1.length c0_1, .slice A0_2 l0_2.length c0_2, .int .i64 a0_3, .int .i64 a0_4]) (t := 59) ?hr ?_; (case hd => rfl); (case hg => rfl); (case hr => first | (go_simp; done) | (go_simp; rfl)); intro gb1144 hg w12 hbox hb; have n0_ := Aside0.mk (below_step (by repeat (first | (with_reducible first | exact HB.out | apply below_alloc | apply pw_below_drewN | apply below_drew1) | exact HB.out)) hb); have n1_ := Aside0.mk (hbox); have n2_ := Aside0.mk ((by rw [hg]; exact (below_size (by repeat (first | (with_reducible first | exact HB.out | apply below_alloc | apply pw_below_drewN | apply below_drew1) | exact HB.out))) : w.heap.size ≤ gb1144)); have n3_ := Aside0.mk ((by rw [hg]; exact (below_size (by repeat (first | (with_reducible first | exact HB.out | apply below_alloc | apply pw_below_drewN | apply below_drew1) | exact HB.out))) : w.heap.size ≤ gb1144)); clear HB; have HB := n0_; have BK1144 := n1_; have GW1144 := n2_; have GE1144 := n3_; clear n0_ n1_ n2_ n3_; clear hb hbox hg; have hcz13_0 : w12.cell? ⟨gb1144, 0, none⟩ = some (.slice A0_0 l0_0.length c0_0) := (blk_cell BK1144.out 0).trans rfl; have hcz13_1 : w12.cell? ⟨gb1144, 1, none⟩ = some (.slice A0_1 l0_1.length c0_1) := (blk_cell BK1144.out 1).trans rfl; have hcz13_2 : w12.cell? ⟨gb1144, 2, none⟩ = some (.slice A0_2 l0_2.length c0_2) := (blk_cell BK1144.out 2).trans rfl; have hcz13_3 : w12.cell? ⟨gb1144, 3, none⟩ = some (.int .i64 a0_3) := (blk_cell BK1144.out 3).trans rfl; have hcz13_4 : w12.cell? ⟨gb1144, 4, none⟩ = some (.int .i64 a0_4) := (blk_cell BK1144.out 4).trans rfl; have hfz13_0 := blk_frozen BK1144.out 0; have hfz13_1 := blk_frozen BK1144.out 1; have hfz13_2 := blk_frozen BK1144.out 2; have hfz13_3 := blk_frozen BK1144.out 3; have hfz13_4 := blk_frozen BK1144.out 4) | ((with_reducible refine gate_callee (f := 37) rfl ?_); refine goesL_ (some 11) rfl rfl Try.func37 (by kernel_rfl) rfl #[.agg #[.slice A0_0 l0_0.length c0_0, .slice A0_1 l0_1.length c0_1, .slice A0_2 l0_2.length c0_2, .int .i64 a0_3, .int .i64 a0_4], .int .i64 1048576] rfl (by (try simp only [List.map_toArray, List.map_cons, List.map_nil]); first | done | rfl | (simp only [List.length_drop, List.length_take]; rfl)) ?_; (with_reducible refine (laws_szHead.calls _ _ l0_0 _ _ l0_1 _ _ l0_2 a0_3 a0_4 1048576 t1145 _ ?side1 ?side2 ?side3 ?side4 ?side5 ?side6 A2.out).mono ?_); (case side1 => repeat (first | exact (Kd.C_below HR0_0.out HB.out) | (with_reducible refine Kd.C_alloc ?_ _) | (with_reducible refine Kd.C_drewN ?_ _) | (with_reducible refine Kd.C_drew ?_))); (case side2 => exact HC0_0.out); (case side3 => repeat (first | exact (Kd.C_below HR0_1.out HB.out) | (with_reducible refine Kd.C_alloc ?_ _) | (with_reducible refine Kd.C_drewN ?_ _) | (with_reducible refine Kd.C_drew ?_))); (case side4 => exact HC0_1.out); (case side5 => repeat (first | exact (Kd.C_below HR0_2.out HB.out) | (with_reducible refine Kd.C_alloc ?_ _) | (with_reducible refine Kd.C_drewN ?_ _) | (with_reducible refine Kd.C_drew ?_))); (case side6 => exact HC0_2.out); rintro e w14 ⟨rfl, hb⟩; refine ⟨_, rfl, ?_⟩; have n0_ := Aside0.mk (blk_below (g := gb1144) (o := .cells #[.slice A0_0 l0_0.length c0_0, .slice A0_1 l0_1.length c0_1, .slice A0_2 l0_2.length c0_2, .int .i64 a0_3, .int .i64 a0_4] 59 (0, 0)) (by (with_reducible repeat (first | refine blk_drewN ?_ _ | refine blk_drew ?_ | refine blk_alloc ?_ _)); exact BK1144.out) hb); have n1_ := Aside0.mk (below_step (by repeat (first | (with_reducible first | exact HB.out | apply below_alloc | apply pw_below_drewN | apply below_drew1 | refine below_set ?_ GE1144.out) | exact HB.out)) hb); clear BK1144; clear HB; have BK1144 := n0_; have HB := n1_; clear n0_ n1_; (try clear hb); (try clear hb2); (try clear hk); (try clear hi); have hcz15_0 : w14.cell? ⟨gb1144, 0, none⟩ = some (.slice A0_0 l0_0.length c0_0) := (blk_cell BK1144.out 0).trans rfl; have hcz15_1 : w14.cell? ⟨gb1144, 1, none⟩ = some (.slice A0_1 l0_1.length c0_1) := (blk_cell BK1144.out 1).trans rfl; have hcz15_2 : w14.cell? ⟨gb1144, 2, none⟩ = some (.slice A0_2 l0_2.length c0_2) := (blk_cell BK1144.out 2).trans rfl; have hcz15_3 : w14.cell? ⟨gb1144, 3, none⟩ = some (.int .i64 a0_3) := (blk_cell BK1144.out 3).trans rfl; have hcz15_4 : w14.cell? ⟨gb1144, 4, none⟩ = some (.int .i64 a0_4) := (blk_cell BK1144.out 4).trans rfl; have hfz15_0 := blk_frozen BK1144.out 0; have hfz15_1 := blk_frozen BK1144.out 1; have hfz15_2 := blk_frozen BK1144.out 2; have hfz15_3 := blk_frozen BK1144.out 3; have hfz15_4 := blk_frozen BK1144.out 4) | ((with_reducible refine gate_callee (f := 39) rfl ?_); refine goesL_ (some 16) rfl rfl Try.func39 (by kernel_rfl) rfl #[.agg #[.slice A0_0 l0_0.length c0_0, .slice A0_1 l0_1.length c0_1, .slice A0_2 l0_2.length c0_2, .int .i64 a0_3, .int .i64 a0_4]] rfl (by (try simp only [List.map_toArray, List.map_cons, List.map_nil]); first | done | rfl | (simp only [List.length_drop, List.length_take]; rfl)) ?_; (with_reducible refine (laws_toHead.calls k _ _ l0_0 _ _ l0_1 _ _ l0_2 a0_3 a0_4 t1146 t1149 t1152 t1155 t1156 _ ?side1 ?side2 ?side3 ?side4 ?side5 ?side6 A7.out).mono ?_); (case side1 => repeat (first | exact (Kd.C_below HR0_0.out HB.out) | (with_reducible refine Kd.C_alloc ?_ _) | (with_reducible refine Kd.C_drewN ?_ _) | (with_reducible refine Kd.C_drew ?_))); (case side2 => exact HC0_0.out); (case side3 => repeat (first | exact (Kd.C_below HR0_1.out HB.out) | (with_reducible refine Kd.C_alloc ?_ _) | (with_reducible refine Kd.C_drewN ?_ _) | (with_reducible refine Kd.C_drew ?_))); (case side4 => exact HC0_1.out); (case side5 => repeat (first | exact (Kd.C_below HR0_2.out HB.out) | (with_reducible refine Kd.C_alloc ?_ _) | (with_reducible refine Kd.C_drewN ?_ _) | (with_reducible refine Kd.C_drew ?_))); (case side6 => exact HC0_2.out); rintro e w16 ⟨v1147, v1150, v1153, rfl, ho0, ho1, ho2, hb⟩; refine ⟨_, rfl, ?_⟩; have n0_ := Aside0.mk (Kd.R_lower ho0 (below_size (by repeat (first | (with_reducible first | exact HB.out | apply below_alloc | apply pw_below_drewN | apply below_drew1 | refine below_set ?_ GE1144.out) | exact HB.out)))); have n1_ := Aside0.mk (Kd.R_lower ho1 (below_size (by repeat (first | (with_reducible first | exact HB.out | apply below_alloc | apply pw_below_drewN | apply below_drew1 | refine below_set ?_ GE1144.out) | exact HB.out)))); have n2_ := Aside0.mk (Kd.R_lower ho2 (below_size (by repeat (first | (with_reducible first | exact HB.out | apply below_alloc | apply pw_below_drewN | apply below_drew1 | refine below_set ?_ GE1144.out) | exact HB.out)))); have n3_ := Aside0.mk (blk_below (g := gb1144) (o := .cells #[.slice A0_0 l0_0.length c0_0, .slice A0_1 l0_1.length c0_1, .slice A0_2 l0_2.length c0_2, .int .i64 a0_3, .int .i64 a0_4] 59 (0, 0)) (by (with_reducible repeat (first | refine blk_drewN ?_ _ | refine blk_drew ?_ | refine blk_alloc ?_ _)); exact BK1144.out) hb); have n4_ := Aside0.mk (below_step (by repeat (first | (with_reducible first | exact HB.out | apply below_alloc | apply pw_below_drewN | apply below_drew1 | refine below_set ?_ GE1144.out) | exact HB.out)) hb); clear BK1144; clear HB; have HO1148 := n0_; have HO1151 := n1_; have HO1154 := n2_; have BK1144 := n3_; have HB := n4_; clear n0_ n1_ n2_ n3_ n4_; (try clear hb); (try clear hb2); (try clear hk); (try clear hi); (try clear ho0); (try clear ho1); (try clear ho2); obtain ⟨Ao17, co17, eo17⟩ := Kd.R_slice HO1148.out; subst eo17; obtain ⟨Ao18, co18, eo18⟩ := Kd.R_slice HO1151.out; subst eo18; obtain ⟨Ao19, co19, eo19⟩ := Kd.R_slice HO1154.out; subst eo19) | ((with_reducible refine gate_callee (f := 69) rfl ?_); refine goesL_ (some 17) rfl rfl Try.func69 (by kernel_rfl) rfl #[.agg #[.slice Ao17 t1146.length co17, .slice Ao18 t1149.length co18, .slice Ao19 t1152.length co19, .int .i64 t1155, .int .i64 t1156]] rfl (by (try simp only [List.map_toArray, List.map_cons, List.map_nil]); first | done | rfl | (simp only [List.length_drop, List.length_take]; rfl)) ?_; (with_reducible refine (spec_BoundOf.calls k _ _ t1146 _ _ t1149 _ _ t1152 t1155 t1156 t1157 t1158 _ ?side1 ?side2 ?side3 ?side4 ?side5 ?side6 A8.out).mono ?_); (case side1 => repeat (first | exact (Kd.R_reads' HO1148.out).2.2 | (with_reducible refine Kd.C_alloc ?_ _) | (with_reducible refine Kd.C_drewN ?_ _) | (with_reducible refine Kd.C_drew ?_))); (case side2 => exact (Kd.R_reads' HO1148.out).2.1); (case side3 => repeat (first | exact (Kd.R_reads' HO1151.out).2.2 | (with_reducible refine Kd.C_alloc ?_ _) | (with_reducible refine Kd.C_drewN ?_ _) | (with_reducible refine Kd.C_drew ?_))); (case side4 => exact (Kd.R_reads' HO1151.out).2.1); (case side5 => repeat (first | exact (Kd.R_reads' HO1154.out).2.2 | (with_reducible refine Kd.C_alloc ?_ _) | (with_reducible refine Kd.C_drewN ?_ _) | (with_reducible refine Kd.C_drew ?_))); (case side6 => exact (Kd.R_reads' HO1154.out).2.1); rintro e w20 ⟨rfl, hb⟩; refine ⟨_, rfl, ?_⟩; have n0_ := Aside0.mk (Kd.R_below (by (with_reducible repeat (first | apply Kd.R_alloc | apply Kd.R_drewN | apply Kd.R_drew)); exact HO1148.out) hb); have n1_ := Aside0.mk (Kd.R_below (by (with_reducible repeat (first | apply Kd.R_alloc | apply Kd.R_drewN | apply Kd.R_drew)); exact HO1151.out) hb); have n2_ := Aside0.mk (Kd.R_below (by (with_reducible repeat (first | apply Kd.R_alloc | apply Kd.R_drewN | apply Kd.R_drew)); exact HO1154.out) hb); have n3_ := Aside0.mk (blk_below (g := gb1144) (o := .cells #[.slice A0_0 l0_0.length c0_0, .slice A0_1 l0_1.length c0_1, .slice A0_2 l0_2.length c0_2, .int .i64 a0_3, .int .i64 a0_4] 59 (0, 0)) (by (with_reducible repeat (first | refine blk_drewN ?_ _ | refine blk_drew ?_ | refine blk_alloc ?_ _)); exact BK1144.out) hb); have n4_ := Aside0.mk (below_step (by repeat (first | (with_reducible first | exact HB.out | apply below_alloc | apply pw_below_drewN | apply below_drew1 | refine below_set ?_ GE1144.out) | exact HB.out)) hb); clear HO1148; clear HO1151; clear HO1154; clear BK1144; clear HB; have HO1148 := n0_; have HO1151 := n1_; have HO1154 := n2_; have BK1144 := n3_; have HB := n4_; clear n0_ n1_ n2_ n3_ n4_; (try clear hb); (try clear hb2); (try clear hk); (try clear hi); have hcz21_0 : w20.cell? ⟨gb1144, 0, none⟩ = some (.slice A0_0 l0_0.length c0_0) := (blk_cell BK1144.out 0).trans rfl; have hcz21_1 : w20.cell? ⟨gb1144, 1, none⟩ = some (.slice A0_1 l0_1.length c0_1) := (blk_cell BK1144.out 1).trans rfl; have hcz21_2 : w20.cell? ⟨gb1144, 2, none⟩ = some (.slice A0_2 l0_2.length c0_2) := (blk_cell BK1144.out 2).trans rfl; have hcz21_3 : w20.cell? ⟨gb1144, 3, none⟩ = some (.int .i64 a0_3) := (blk_cell BK1144.out 3).trans rfl; have hcz21_4 : w20.cell? ⟨gb1144, 4, none⟩ = some (.int .i64 a0_4) := (blk_cell BK1144.out 4).trans rfl; have hfz21_0 := blk_frozen BK1144.out 0; have hfz21_1 := blk_frozen BK1144.out 1; have hfz21_2 := blk_frozen BK1144.out 2; have hfz21_3 := blk_frozen BK1144.out 3; have hfz21_4 := blk_frozen BK1144.out 4) | ((with_reducible refine gate_callee (f := 39) rfl ?_); refine goesL_ (some 21) rfl rfl Try.func39 (by kernel_rfl) rfl #[.agg #[.slice A0_0 l0_0.length c0_0, .slice A0_1 l0_1.length c0_1, .slice A0_2 l0_2.length c0_2, .int .i64 a0_3, .int .i64 a0_4]] rfl (by (try simp only [List.map_toArray, List.map_cons, List.map_nil]); first | done | rfl | (simp only [List.length_drop, List.length_take]; rfl)) ?_; (with_reducible refine (laws_toHead.calls k _ _ l0_0 _ _ l0_1 _ _ l0_2 a0_3 a0_4 t1159 t1162 t1165 t1168 t1169 _ ?side1 ?side2 ?side3 ?side4 ?side5 ?side6 A9.out).mono ?_); (case side1 => repeat (first | exact (Kd.C_below HR0_0.out HB.out) | (with_reducible refine Kd.C_alloc ?_ _) | (with_reducible refine Kd.C_drewN ?_ _) | (with_reducible refine Kd.C_drew ?_))); (case side2 => exact HC0_0.out); (case side3 => repeat (first | exact (Kd.C_below HR0_1.out HB.out) | (with_reducible refine Kd.C_alloc ?_ _) | (with_reducible refine Kd.C_drewN ?_ _) | (with_reducible refine Kd.C_drew ?_))); (case side4 => exact HC0_1.out); (case side5 => repeat (first | exact (Kd.C_below HR0_2.out HB.out) | (with_reducible refine Kd.C_alloc ?_ _) | (with_reducible refine Kd.C_drewN ?_ _) | (with_reducible refine Kd.C_drew ?_))); (case side6 => exact HC0_2.out); rintro e w22 ⟨v1160, v1163, v1166, rfl, ho0, ho1, ho2, hb⟩; refine ⟨_, rfl, ?_⟩; have n0_ := Aside0.mk (Kd.R_elder' (by (with_reducible repeat (first | apply Kd.R_alloc | apply Kd.R_drewN | apply Kd.R_drew)); exact HO1148.out) (Kd.R_base ho0) hb); have n1_ := Aside0.mk (Kd.R_mono (Kd.R_told (Kd.R_told (Kd.R_old (by (with_reducible repeat (first | apply Kd.R_alloc | apply Kd.R_drewN | apply Kd.R_drew)); exact HO1151.out) hb) (Kd.R_base ho1)) (Kd.R_base ho2)) (fun _ h_ => h_.1)); have n2_ := Aside0.mk (Kd.R_mono (Kd.R_told (Kd.R_told (Kd.R_old (by (with_reducible repeat (first | apply Kd.R_alloc | apply Kd.R_drewN | apply Kd.R_drew)); exact HO1154.out) hb) (Kd.R_base ho1)) (Kd.R_base ho2)) (fun _ h_ => h_.1)); have n3_ := Aside0.mk (Kd.R_lower (Kd.R_new' ho0 (Kd.R_lt (by (with_reducible repeat (first | apply Kd.R_alloc | apply Kd.R_drewN | apply Kd.R_drew)); exact HO1148.out))) (below_size (by repeat (first | (with_reducible first | exact HB.out | apply below_alloc | apply pw_below_drewN | apply below_drew1 | refine below_set ?_ GE1144.out) | exact HB.out)))); have n4_ := Aside0.mk (Kd.R_lower (Kd.R_new' (Kd.R_new' ho1 (Kd.R_lt (by (with_reducible repeat (first | apply Kd.R_alloc | apply Kd.R_drewN | apply Kd.R_drew)); exact HO1151.out))) (Kd.R_lt (by (with_reducible repeat (first | apply Kd.R_alloc | apply Kd.R_drewN | apply Kd.R_drew)); exact HO1154.out))) (below_size (by repeat (first | (with_reducible first | exact HB.out | apply below_alloc | apply pw_below_drewN | apply below_drew1 | refine below_set ?_ GE1144.out) | exact HB.out)))); have n5_ := Aside0.mk (Kd.R_lower (Kd.R_new' (Kd.R_new' ho2 (Kd.R_lt (by (with_reducible repeat (first | apply Kd.R_alloc | apply Kd.R_drewN | apply Kd.R_drew)); exact HO1151.out))) (Kd.R_lt (by (with_reducible repeat (first | apply Kd.R_alloc | apply Kd.R_drewN | apply Kd.R_drew)); exact HO1154.out))) (below_size (by repeat (first | (with_reducible first | exact HB.out | apply below_alloc | apply pw_below_drewN | apply below_drew1 | refine below_set ?_ GE1144.out) | exact HB.out)))); have n6_ := Aside0.mk (blk_below (g := gb1144) (o := .cells #[.slice A0_0 l0_0.length c0_0, .slice A0_1 l0_1.length c0_1, .slice A0_2 l0_2.length c0_2, .int .i64 a0_3, .int .i64 a0_4] 59 (0, 0)) (by (with_reducible repeat (first | refine blk_drewN ?_ _ | refine blk_drew ?_ | refine blk_alloc ?_ _)); exact BK1144.out) hb); have n7_ := Aside0.mk (below_step (by repeat (first | (with_reducible first | exact HB.out | apply below_alloc | apply pw_below_drewN | apply below_drew1 | refine below_set ?_ GE1144.out) | exact HB.out)) hb); clear HO1148; clear HO1151; clear HO1154; clear BK1144; clear HB; have HO1148 := n0_; have HO1151 := n1_; have HO1154 := n2_; have HO1161 := n3_; have HO1164 := n4_; have HO1167 := n5_; have BK1144 := n6_; have HB := n7_; clear n0_ n1_ n2_ n3_ n4_ n5_ n6_ n7_; (try clear hb); (try clear hb2); (try clear hk); (try clear hi); (try clear ho0); (try clear ho1); (try clear ho2)) | ((with_reducible refine gate_dst (N := 6) rfl ?_); refine box_event ?hg (N := 6) ?hd (cs := #[.slice none 0 0, .slice none 0 0, .slice none 0 0, .int .i64 0, .int .i64 0]) (t := 64) ?hr ?_; (case hd => rfl); (case hg => rfl); (case hr => first | (go_simp; done) | (go_simp; rfl)); intro gb1170 hg w23 hbox hb; have n0_ := Aside0.mk (Kd.R_below (by (with_reducible repeat (first | apply Kd.R_alloc | apply Kd.R_drewN | apply Kd.R_drew)); exact HO1148.out) hb); have n1_ := Aside0.mk (Kd.R_below (by (with_reducible repeat (first | apply Kd.R_alloc | apply Kd.R_drewN | apply Kd.R_drew)); exact HO1151.out) hb); have n2_ := Aside0.mk (Kd.R_below (by (with_reducible repeat (first | apply Kd.R_alloc | apply Kd.R_drewN | apply Kd.R_drew)); exact HO1154.out) hb); have n3_ := Aside0.mk (Kd.R_below (by (with_reducible repeat (first | apply Kd.R_alloc | apply Kd.R_drewN | apply Kd.R_drew)); exact HO1161.out) hb); have n4_ := Aside0.mk (Kd.R_below (by (with_reducible repeat (first | apply Kd.R_alloc | apply Kd.R_drewN | apply Kd.R_drew)); exact HO1164.out) hb); have n5_ := Aside0.mk (Kd.R_below (by (with_reducible repeat (first | apply Kd.R_alloc | apply Kd.R_drewN | apply Kd.R_drew)); exact HO1167.out) hb); have n6_ := Aside0.mk (blk_below (g := gb1144) (o := .cells #[.slice A0_0 l0_0.length c0_0, .slice A0_1 l0_1.length c0_1, .slice A0_2 l0_2.length c0_2, .int .i64 a0_3, .int .i64 a0_4] 59 (0, 0)) (by (with_reducible repeat (first | refine blk_drewN ?_ _ | refine blk_drew ?_ | refine blk_alloc ?_ _)); exact BK1144.out) hb); have n7_ := Aside0.mk (below_step (by repeat (first | (with_reducible first | exact HB.out | apply below_alloc | apply pw_below_drewN | apply below_drew1 | refine below_set ?_ GE1144.out) | exact HB.out)) hb); have n8_ := Aside0.mk (hbox); have n9_ := Aside0.mk ((by rw [hg]; exact (below_size (by repeat (first | (with_reducible first | exact HB.out | apply below_alloc | apply pw_below_drewN | apply below_drew1 | refine below_set ?_ GE1144.out) | exact HB.out))) : w.heap.size ≤ gb1170)); have n10_ := Aside0.mk ((by rw [hg]; exact (below_size (by repeat (first | (with_reducible first | exact HB.out | apply below_alloc | apply pw_below_drewN | apply below_drew1 | refine below_set ?_ GE1144.out) | exact HB.out))) : w.heap.size ≤ gb1170)); have n11_ := Aside0.mk ((by rw [hg]; exact Nat.ne_of_lt (blk_lt (g := gb1144) (o := .cells #[.slice A0_0 l0_0.length c0_0, .slice A0_1 l0_1.length c0_1, .slice A0_2 l0_2.length c0_2, .int .i64 a0_3, .int .i64 a0_4] 59 (0, 0)) (by (with_reducible repeat (first | refine blk_drewN ?_ _ | refine blk_drew ?_ | refine blk_alloc ?_ _)); exact BK1144.out)) : gb1144 ≠ gb1170)); have n12_ := Aside0.mk ((by rw [hg]; exact Nat.ne_of_gt (blk_lt (g := gb1144) (o := .cells #[.slice A0_0 l0_0.length c0_0, .slice A0_1 l0_1.length c0_1, .slice A0_2 l0_2.length c0_2, .int .i64 a0_3, .int .i64 a0_4] 59 (0, 0)) (by (with_reducible repeat (first | refine blk_drewN ?_ _ | refine blk_drew ?_ | refine blk_alloc ?_ _)); exact BK1144.out)) : gb1170 ≠ gb1144)); clear HO1148; clear HO1151; clear HO1154; clear HO1161; clear HO1164; clear HO1167; clear BK1144; clear HB; have HO1148 := n0_; have HO1151 := n1_; have HO1154 := n2_; have HO1161 := n3_; have HO1164 := n4_; have HO1167 := n5_; have BK1144 := n6_; have HB := n7_; have BK1170 := n8_; have GW1170 := n9_; have GE1170 := n10_; have NB1144_1170 := n11_; have NB1170_1144 := n12_; clear n0_ n1_ n2_ n3_ n4_ n5_ n6_ n7_ n8_ n9_ n10_ n11_ n12_; clear hb hbox hg; obtain ⟨Ao24, co24, eo24⟩ := Kd.R_slice HO1161.out; subst eo24; have hnb25 := NB1170_1144.out; have hnc25 := NB1144_1170.out; have hcz26_0 : w23.cell? ⟨gb1170, 0, none⟩ = some (.slice none 0 0) := (blk_cell BK1170.out 0).trans rfl; have hcz26_1 : w23.cell? ⟨gb1170, 1, none⟩ = some (.slice none 0 0) := (blk_cell BK1170.out 1).trans rfl; have hcz26_2 : w23.cell? ⟨gb1170, 2, none⟩ = some (.slice none 0 0) := (blk_cell BK1170.out 2).trans rfl; have hcz26_3 : w23.cell? ⟨gb1170, 3, none⟩ = some (.int .i64 0) := (blk_cell BK1170.out 3).trans rfl; have hcz26_4 : w23.cell? ⟨gb1170, 4, none⟩ = some (.int .i64 0) := (blk_cell BK1170.out 4).trans rfl; have hfz26_0 := blk_frozen BK1170.out 0; have hfz26_1 := blk_frozen BK1170.out 1; have hfz26_2 := blk_frozen BK1170.out 2; have hfz26_3 := blk_frozen BK1170.out 3; have hfz26_4 := blk_frozen BK1170.out 4; obtain ⟨Ao27, co27, eo27⟩ := Kd.R_slice HO1164.out; subst eo27; obtain ⟨Ao28, co28, eo28⟩ := Kd.R_slice HO1167.out; subst eo28) | ((with_reducible refine gate_callee (f := 70) rfl ?_); refine goesL_ (some 24) rfl rfl Try.func70 (by kernel_rfl) rfl #[.agg #[.slice Ao24 t1159.length co24, .slice Ao27 t1162.length co27, .slice Ao28 t1165.length co28, .int .i64 t1168, .int .i64 t1169]] rfl (by (try simp only [List.map_toArray, List.map_cons, List.map_nil]); first | done | rfl | (simp only [List.length_drop, List.length_take]; rfl)) ?_; (with_reducible refine (impl_BoundOf.calls k _ _ t1159 _ _ t1162 _ _ t1165 t1168 t1169 t1171 t1172 _ ?side1 ?side2 ?side3 ?side4 ?side5 ?side6 A10.out).mono ?_); (case side1 => refine (Kd.R_reads' (e := 79) (base := w.heap.size) (ok := fun k_ => (True ∧ some k_ ≠ (.slice Ao17 t1146.length co17 : Value).ownBlock)) (n := t1159.length) (c := co24) ?_).2.2; exact (by (with_reducible repeat (first | apply Kd.R_alloc | apply Kd.R_drewN | apply Kd.R_drew)); exact (Kd.R_mono (Kd.R_far (p := ⟨gb1170, 4, none⟩) (Kd.R_far (p := ⟨gb1170, 3, none⟩) (Kd.R_far (p := ⟨gb1170, 2, none⟩) (Kd.R_far (p := ⟨gb1170, 1, none⟩) (Kd.R_far (p := ⟨gb1170, 0, none⟩) (Kd.R_types HO1161.out BK1170.out (by decide)) (fun _ hk => hk.2) (.slice Ao24 t1159.length co24)) (fun _ hk => hk.2) (.slice Ao27 t1162.length co27)) (fun _ hk => hk.2) (.slice Ao28 t1165.length co28)) (fun _ hk => hk.2) (.int .i64 t1168)) (fun _ hk => hk.2) (.int .i64 t1169)) (fun _ h_ => h_.1)))); (case side2 => exact (Kd.R_reads' HO1161.out).2.1); (case side3 => refine (Kd.R_reads' (e := 2) (base := w.heap.size) (ok := fun k_ => ((some k_ ≠ (.slice Ao28 t1165.length co28 : Value).ownBlock ∧ some k_ ≠ (.slice Ao18 t1149.length co18 : Value).ownBlock) ∧ some k_ ≠ (.slice Ao19 t1152.length co19 : Value).ownBlock)) (n := t1162.length) (c := co27) ?_).2.2; exact (by (with_reducible repeat (first | apply Kd.R_alloc | apply Kd.R_drewN | apply Kd.R_drew)); exact (Kd.R_mono (Kd.R_far (p := ⟨gb1170, 4, none⟩) (Kd.R_far (p := ⟨gb1170, 3, none⟩) (Kd.R_far (p := ⟨gb1170, 2, none⟩) (Kd.R_far (p := ⟨gb1170, 1, none⟩) (Kd.R_far (p := ⟨gb1170, 0, none⟩) (Kd.R_types HO1164.out BK1170.out (by decide)) (fun _ hk => hk.2) (.slice Ao24 t1159.length co24)) (fun _ hk => hk.2) (.slice Ao27 t1162.length co27)) (fun _ hk => hk.2) (.slice Ao28 t1165.length co28)) (fun _ hk => hk.2) (.int .i64 t1168)) (fun _ hk => hk.2) (.int .i64 t1169)) (fun _ h_ => h_.1)))); (case side4 => exact (Kd.R_reads' HO1164.out).2.1); (case side5 => refine (Kd.R_reads' (e := 2) (base := w.heap.size) (ok := fun k_ => ((some k_ ≠ (.slice Ao27 t1162.length co27 : Value).ownBlock ∧ some k_ ≠ (.slice Ao18 t1149.length co18 : Value).ownBlock) ∧ some k_ ≠ (.slice Ao19 t1152.length co19 : Value).ownBlock)) (n := t1165.length) (c := co28) ?_).2.2; exact (by (with_reducible repeat (first | apply Kd.R_alloc | apply Kd.R_drewN | apply Kd.R_drew)); exact (Kd.R_mono (Kd.R_far (p := ⟨gb1170, 4, none⟩) (Kd.R_far (p := ⟨gb1170, 3, none⟩) (Kd.R_far (p := ⟨gb1170, 2, none⟩) (Kd.R_far (p := ⟨gb1170, 1, none⟩) (Kd.R_far (p := ⟨gb1170, 0, none⟩) (Kd.R_types HO1167.out BK1170.out (by decide)) (fun _ hk => hk.2) (.slice Ao24 t1159.length co24)) (fun _ hk => hk.2) (.slice Ao27 t1162.length co27)) (fun _ hk => hk.2) (.slice Ao28 t1165.length co28)) (fun _ hk => hk.2) (.int .i64 t1168)) (fun _ hk => hk.2) (.int .i64 t1169)) (fun _ h_ => h_.1)))); (case side6 => exact (Kd.R_reads' HO1167.out).2.1); rintro e w29 ⟨rfl, hb⟩; refine ⟨_, rfl, ?_⟩; have n0_ := Aside0.mk (Kd.R_below (by (with_reducible repeat (first | apply Kd.R_alloc | apply Kd.R_drewN | apply Kd.R_drew)); exact (Kd.R_mono (Kd.R_far (p := ⟨gb1170, 4, none⟩) (Kd.R_far (p := ⟨gb1170, 3, none⟩) (Kd.R_far (p := ⟨gb1170, 2, none⟩) (Kd.R_far (p := ⟨gb1170, 1, none⟩) (Kd.R_far (p := ⟨gb1170, 0, none⟩) (Kd.R_types HO1148.out BK1170.out (by decide)) (fun _ hk => hk.2) (.slice Ao24 t1159.length co24)) (fun _ hk => hk.2) (.slice Ao27 t1162.length co27)) (fun _ hk => hk.2) (.slice Ao28 t1165.length co28)) (fun _ hk => hk.2) (.int .i64 t1168)) (fun _ hk => hk.2) (.int .i64 t1169)) (fun _ h_ => h_.1))) hb); have n1_ := Aside0.mk (Kd.R_below (by (with_reducible repeat (first | apply Kd.R_alloc | apply Kd.R_drewN | apply Kd.R_drew)); exact (Kd.R_mono (Kd.R_far (p := ⟨gb1170, 4, none⟩) (Kd.R_far (p := ⟨gb1170, 3, none⟩) (Kd.R_far (p := ⟨gb1170, 2, none⟩) (Kd.R_far (p := ⟨gb1170, 1, none⟩) (Kd.R_far (p := ⟨gb1170, 0, none⟩) (Kd.R_types HO1151.out BK1170.out (by decide)) (fun _ hk => hk.2) (.slice Ao24 t1159.length co24)) (fun _ hk => hk.2) (.slice Ao27 t1162.length co27)) (fun _ hk => hk.2) (.slice Ao28 t1165.length co28)) (fun _ hk => hk.2) (.int .i64 t1168)) (fun _ hk => hk.2) (.int .i64 t1169)) (fun _ h_ => h_.1))) hb); have n2_ := Aside0.mk (Kd.R_below (by (with_reducible repeat (first | apply Kd.R_alloc | apply Kd.R_drewN | apply Kd.R_drew)); exact (Kd.R_mono (Kd.R_far (p := ⟨gb1170, 4, none⟩) (Kd.R_far (p := ⟨gb1170, 3, none⟩) (Kd.R_far (p := ⟨gb1170, 2, none⟩) (Kd.R_far (p := ⟨gb1170, 1, none⟩) (Kd.R_far (p := ⟨gb1170, 0, none⟩) (Kd.R_types HO1154.out BK1170.out (by decide)) (fun _ hk => hk.2) (.slice Ao24 t1159.length co24)) (fun _ hk => hk.2) (.slice Ao27 t1162.length co27)) (fun _ hk => hk.2) (.slice Ao28 t1165.length co28)) (fun _ hk => hk.2) (.int .i64 t1168)) (fun _ hk => hk.2) (.int .i64 t1169)) (fun _ h_ => h_.1))) hb); have n3_ := Aside0.mk (Kd.R_below (by (with_reducible repeat (first | apply Kd.R_alloc | apply Kd.R_drewN | apply Kd.R_drew)); exact (Kd.R_mono (Kd.R_far (p := ⟨gb1170, 4, none⟩) (Kd.R_far (p := ⟨gb1170, 3, none⟩) (Kd.R_far (p := ⟨gb1170, 2, none⟩) (Kd.R_far (p := ⟨gb1170, 1, none⟩) (Kd.R_far (p := ⟨gb1170, 0, none⟩) (Kd.R_types HO1161.out BK1170.out (by decide)) (fun _ hk => hk.2) (.slice Ao24 t1159.length co24)) (fun _ hk => hk.2) (.slice Ao27 t1162.length co27)) (fun _ hk => hk.2) (.slice Ao28 t1165.length co28)) (fun _ hk => hk.2) (.int .i64 t1168)) (fun _ hk => hk.2) (.int .i64 t1169)) (fun _ h_ => h_.1))) hb); have n4_ := Aside0.mk (Kd.R_below (by (with_reducible repeat (first | apply Kd.R_alloc | apply Kd.R_drewN | apply Kd.R_drew)); exact (Kd.R_mono (Kd.R_far (p := ⟨gb1170, 4, none⟩) (Kd.R_far (p := ⟨gb1170, 3, none⟩) (Kd.R_far (p := ⟨gb1170, 2, none⟩) (Kd.R_far (p := ⟨gb1170, 1, none⟩) (Kd.R_far (p := ⟨gb1170, 0, none⟩) (Kd.R_types HO1164.out BK1170.out (by decide)) (fun _ hk => hk.2) (.slice Ao24 t1159.length co24)) (fun _ hk => hk.2) (.slice Ao27 t1162.length co27)) (fun _ hk => hk.2) (.slice Ao28 t1165.length co28)) (fun _ hk => hk.2) (.int .i64 t1168)) (fun _ hk => hk.2) (.int .i64 t1169)) (fun _ h_ => h_.1))) hb); have n5_ := Aside0.mk (Kd.R_below (by (with_reducible repeat (first | apply Kd.R_alloc | apply Kd.R_drewN | apply Kd.R_drew)); exact (Kd.R_mono (Kd.R_far (p := ⟨gb1170, 4, none⟩) (Kd.R_far (p := ⟨gb1170, 3, none⟩) (Kd.R_far (p := ⟨gb1170, 2, none⟩) (Kd.R_far (p := ⟨gb1170, 1, none⟩) (Kd.R_far (p := ⟨gb1170, 0, none⟩) (Kd.R_types HO1167.out BK1170.out (by decide)) (fun _ hk => hk.2) (.slice Ao24 t1159.length co24)) (fun _ hk => hk.2) (.slice Ao27 t1162.length co27)) (fun _ hk => hk.2) (.slice Ao28 t1165.length co28)) (fun _ hk => hk.2) (.int .i64 t1168)) (fun _ hk => hk.2) (.int .i64 t1169)) (fun _ h_ => h_.1))) hb); have n6_ := Aside0.mk (blk_below (g := gb1144) (o := .cells #[.slice A0_0 l0_0.length c0_0, .slice A0_1 l0_1.length c0_1, .slice A0_2 l0_2.length c0_2, .int .i64 a0_3, .int .i64 a0_4] 59 (0, 0)) (by (with_reducible repeat (first | refine blk_drewN ?_ _ | refine blk_drew ?_ | refine blk_alloc ?_ _)); refine blk_far ?_ NB1144_1170.out _; (with_reducible repeat (first | refine blk_drewN ?_ _ | refine blk_drew ?_ | refine blk_alloc ?_ _)); refine blk_far ?_ NB1144_1170.out _; (with_reducible repeat (first | refine blk_drewN ?_ _ | refine blk_drew ?_ | refine blk_alloc ?_ _)); refine blk_far ?_ NB1144_1170.out _; (with_reducible repeat (first | refine blk_drewN ?_ _ | refine blk_drew ?_ | refine blk_alloc ?_ _)); refine blk_far ?_ NB1144_1170.out _; (with_reducible repeat (first | refine blk_drewN ?_ _ | refine blk_drew ?_ | refine blk_alloc ?_ _)); refine blk_far ?_ NB1144_1170.out _; (with_reducible repeat (first | refine blk_drewN ?_ _ | refine blk_drew ?_ | refine blk_alloc ?_ _)); exact BK1144.out) hb); have n7_ := Aside0.mk (blk_below (g := gb1170) (o := .cells #[.slice Ao24 t1159.length co24, .slice Ao27 t1162.length co27, .slice Ao28 t1165.length co28, .int .i64 t1168, .int .i64 t1169] 64 (0, 0)) (by (with_reducible repeat (first | refine blk_drewN ?_ _ | refine blk_drew ?_ | refine blk_alloc ?_ _)); refine blk_put (cs := #[.slice Ao24 t1159.length co24, .slice Ao27 t1162.length co27, .slice Ao28 t1165.length co28, .int .i64 t1168, .int .i64 0]) ?_ 4 _ rfl; (with_reducible repeat (first | refine blk_drewN ?_ _ | refine blk_drew ?_ | refine blk_alloc ?_ _)); refine blk_put (cs := #[.slice Ao24 t1159.length co24, .slice Ao27 t1162.length co27, .slice Ao28 t1165.length co28, .int .i64 0, .int .i64 0]) ?_ 3 _ rfl; (with_reducible repeat (first | refine blk_drewN ?_ _ | refine blk_drew ?_ | refine blk_alloc ?_ _)); refine blk_put (cs := #[.slice Ao24 t1159.length co24, .slice Ao27 t1162.length co27, .slice none 0 0, .int .i64 0, .int .i64 0]) ?_ 2 _ rfl; (with_reducible repeat (first | refine blk_drewN ?_ _ | refine blk_drew ?_ | refine blk_alloc ?_ _)); refine blk_put (cs := #[.slice Ao24 t1159.length co24, .slice none 0 0, .slice none 0 0, .int .i64 0, .int .i64 0]) ?_ 1 _ rfl; (with_reducible repeat (first | refine blk_drewN ?_ _ | refine blk_drew ?_ | refine blk_alloc ?_ _)); refine blk_put (cs := #[.slice none 0 0, .slice none 0 0, .slice none 0 0, .int .i64 0, .int .i64 0]) ?_ 0 _ rfl; (with_reducible repeat (first | refine blk_drewN ?_ _ | refine blk_drew ?_ | refine blk_alloc ?_ _)); exact BK1170.out) hb); have n8_ := Aside0.mk (below_step (by repeat (first | (with_reducible first | exact HB.out | apply below_alloc | apply pw_below_drewN | apply below_drew1 | refine below_set ?_ GE1144.out | refine below_set ?_ GE1170.out) | exact HB.out)) hb); clear HO1148; clear HO1151; clear HO1154; clear HO1161; clear HO1164; clear HO1167; clear BK1144; clear BK1170; clear HB; have HO1148 := n0_; have HO1151 := n1_; have HO1154 := n2_; have HO1161 := n3_; have HO1164 := n4_; have HO1167 := n5_; have BK1144 := n6_; have BK1170 := n7_; have HB := n8_; clear n0_ n1_ n2_ n3_ n4_ n5_ n6_ n7_ n8_; (try clear hb); (try clear hb2); (try clear hk); (try clear hi)))
  (try simp only [Act.put, List.setIfInBounds_toArray, List.set_cons_zero, List.set_cons_succ])
  go_cut [34] (fun v34 wc => ∃ (kq : Nat) (x34_10 : Bool), v34 = .bool x34_10 ∧ Aside0 (laws_FnExactBoundOf.j0 kq x34_10 l0_0 l0_1 l0_2 a0_3 a0_4 t1159 t1162 t1165 t1168 t1169 = some r) ∧ Aside0 (kq ≤ k) ∧ Aside0 (Kd.R k79 79 wc w.heap.size (fun _ => True) (.slice Ao24 t1159.length co24) t1159) ∧ Aside0 (Kd.R (Kd.int .i64) 2 wc w.heap.size (fun k_ => some k_ ≠ ((.slice Ao28 t1165.length co28) : Value).ownBlock) (.slice Ao27 t1162.length co27) t1162) ∧ Aside0 (Kd.R (Kd.int .i64) 2 wc w.heap.size (fun k_ => some k_ ≠ ((.slice Ao27 t1162.length co27) : Value).ownBlock) (.slice Ao28 t1165.length co28) t1165) ∧ Aside0 (wc.heap[gb1144]? = some (.cells #[(.slice A0_0 l0_0.length c0_0), (.slice A0_1 l0_1.length c0_1), (.slice A0_2 l0_2.length c0_2), .int .i64 a0_3, .int .i64 a0_4] 59 (0, 0))) ∧ Aside0 (wc.heap[gb1170]? = some (.cells #[(.slice Ao24 t1159.length co24), (.slice Ao27 t1162.length co27), (.slice Ao28 t1165.length co28), .int .i64 t1168, .int .i64 t1169] 64 (0, 0))) ∧ Aside0 (Below w.heap.size w wc))
  case first =>
   have H := HC11.out
   clear HC11
   by_cases c30 : t1171 = t1157
   ·rw [if_pos c30] at H
    have c30b0 : (t1171 == t1157) = true := beq_iff_eq.mpr c30
    have c30b1 : (t1171 != t1157) = false := bne_eq_false_iff_eq.mpr c30
    clear c30
    (first | rw [c30b0] | (simp only [i64_w, i32_w]; rw [c30b0]) | skip)
    have H' := Aside0.mk H
    clear H
    go_wp2
    go_meet
    case rel => exact ⟨_, ((t1172 != t1158)), (by first | rfl | (simp; done) | (simp [*]; done) | (simp [Int.tdiv_eq_ediv_of_nonneg, *]; done)), H', ⟨by first | omega | exact Nat.le_refl _⟩, ⟨by (with_reducible repeat (first | apply Kd.R_alloc | apply Kd.R_drewN | apply Kd.R_drew)); exact Kd.R_mono HO1161.out (fun _ hk => trivial)⟩, ⟨by (with_reducible repeat (first | apply Kd.R_alloc | apply Kd.R_drewN | apply Kd.R_drew)); exact Kd.R_mono HO1164.out (fun _ hk => hk.1.1)⟩, ⟨by (with_reducible repeat (first | apply Kd.R_alloc | apply Kd.R_drewN | apply Kd.R_drew)); exact Kd.R_mono HO1167.out (fun _ hk => hk.1.1)⟩, ⟨by (with_reducible repeat (first | refine blk_drewN ?_ _ | refine blk_drew ?_ | refine blk_alloc ?_ _)); exact BK1144.out⟩, ⟨by (with_reducible repeat (first | refine blk_drewN ?_ _ | refine blk_drew ?_ | refine blk_alloc ?_ _)); exact BK1170.out⟩, ⟨by repeat (first | (with_reducible first | exact HB.out | apply below_alloc | apply pw_below_drewN | apply below_drew1 | refine below_set ?_ GE1144.out | refine below_set ?_ GE1170.out) | exact HB.out)⟩⟩
   ·rw [if_neg c30] at H
    have c30b0 : (t1171 == t1157) = false := beq_eq_false_iff_ne.mpr c30
    have c30b1 : (t1171 != t1157) = true := bne_iff_ne.mpr c30
    (first | rw [c30b0] | (simp only [i64_w, i32_w]; rw [c30b0]) | skip)
    have H' := Aside0.mk H
    clear H
    go_wp2
    go_meet
    case rel => exact ⟨_, (true), (by first | rfl | (simp; done) | (simp [*]; done) | (simp [Int.tdiv_eq_ediv_of_nonneg, *]; done)), H', ⟨by first | omega | exact Nat.le_refl _⟩, ⟨by (with_reducible repeat (first | apply Kd.R_alloc | apply Kd.R_drewN | apply Kd.R_drew)); exact Kd.R_mono HO1161.out (fun _ hk => trivial)⟩, ⟨by (with_reducible repeat (first | apply Kd.R_alloc | apply Kd.R_drewN | apply Kd.R_drew)); exact Kd.R_mono HO1164.out (fun _ hk => hk.1.1)⟩, ⟨by (with_reducible repeat (first | apply Kd.R_alloc | apply Kd.R_drewN | apply Kd.R_drew)); exact Kd.R_mono HO1167.out (fun _ hk => hk.1.1)⟩, ⟨by (with_reducible repeat (first | refine blk_drewN ?_ _ | refine blk_drew ?_ | refine blk_alloc ?_ _)); exact BK1144.out⟩, ⟨by (with_reducible repeat (first | refine blk_drewN ?_ _ | refine blk_drew ?_ | refine blk_alloc ?_ _)); exact BK1170.out⟩, ⟨by repeat (first | (with_reducible first | exact HB.out | apply below_alloc | apply pw_below_drewN | apply below_drew1 | refine below_set ?_ GE1144.out | refine below_set ?_ GE1170.out) | exact HB.out)⟩⟩
  case rest =>
   clear HC11
   try clear c1
   try clear c2
   try clear p2
   try clear c3
   try clear c3b0
   try clear c6
   try clear c7
   try clear c13
   try clear c25
   try clear c30
   try clear c30b0
   try clear c30b1
   try clear hcz13_0
   try clear hcz13_1
   try clear hcz13_2
   try clear hcz13_3
   try clear hcz13_4
   try clear hcz15_0
   try clear hcz15_1
   try clear hcz15_2
   try clear hcz15_3
   try clear hcz15_4
   try clear hcz21_0
   try clear hcz21_1
   try clear hcz21_2
   try clear hcz21_3
   try clear hcz21_4
   try clear hcz26_0
   try clear hcz26_1
   try clear hcz26_2
   try clear hcz26_3
   try clear hcz26_4
   try clear hcz5_0
   try clear hcz5_1
   try clear hcz5_2
   try clear hcz5_3
   try clear hcz5_4
   try clear hfz13_0
   try clear hfz13_1
   try clear hfz13_2
   try clear hfz13_3
   try clear hfz13_4
   try clear hfz15_0
   try clear hfz15_1
   try clear hfz15_2
   try clear hfz15_3
   try clear hfz15_4
   try clear hfz21_0
   try clear hfz21_1
   try clear hfz21_2
   try clear hfz21_3
   try clear hfz21_4
   try clear hfz26_0
   try clear hfz26_1
   try clear hfz26_2
   try clear hfz26_3
   try clear hfz26_4
   try clear hfz5_0
   try clear hfz5_1
   try clear hfz5_2
   try clear hfz5_3
   try clear hfz5_4
   obtain ⟨kq, x34_10, rfl, HA, HJ10, HO_1171000, HO_1171001, HO_1171002, BK1144, BK1170, HB⟩ := hcut
   cases kq with
   | zero => exact absurd HA.out (by simp [laws_FnExactBoundOf.j0])
   | succ kj10 =>
    have H := HA.out
    clear HA
    simp only [laws_FnExactBoundOf.j0] at H
    by_cases c31 : x34_10 = true
    ·subst c31
     have H1 : (some false) = some r := by rw [if_pos rfl] at H; exact H
     clear H
     have H := H1
     clear H1
     obtain rfl := Option.some.inj H
     go_wp2
     go_ret
     exact ⟨by first | rfl | (simp [errW_none, errW_some] <;> rfl) | (simp [*, errW_none, errW_some] <;> rfl) | (simp [Int.tdiv_eq_ediv_of_nonneg, *]; done), by repeat (first | (with_reducible first | exact HB.out | apply below_alloc | apply pw_below_drewN | apply below_drew1 | refine below_set ?_ GE1144.out | refine below_set ?_ GE1170.out) | exact HB.out)⟩
    ·replace c31 := Bool.eq_false_iff.mpr c31
     subst c31
     have H1 : ((laws_toHead.f kj10 l0_0 l0_1 l0_2 a0_3 a0_4).bind fun bt1173 => ((laws_eqHead.f kj10 t1159 t1162 t1165 t1168 t1169 bt1173.1 bt1173.2.1 bt1173.2.2.1 bt1173.2.2.2.1 bt1173.2.2.2.2).bind fun t1184 => (if t1184 = true then (some true) else (some false)))) = some r := by rw [if_neg (show ¬ (false = true) by decide)] at H; exact H
     clear H
     have H := H1
     clear H1
     replace H := Option.bind_eq_some_iff.mp H
     obtain ⟨⟨t1173, t1176, t1179, t1182, t1183⟩, A320, H⟩ := H
     replace H : ((laws_eqHead.f kj10 t1159 t1162 t1165 t1168 t1169 t1173 t1176 t1179 t1182 t1183).bind fun t1184 => (if t1184 = true then (some true) else (some false))) = some r := H
     have A32 := Aside0.mk A320
     clear A320
     replace H := Option.bind_eq_some_iff.mp H
     obtain ⟨t1184, A330, H⟩ := H
     replace H : (if t1184 = true then (some true) else (some false)) = some r := H
     have A33 := Aside0.mk A330
     clear A330
     by_cases c34 : t1184 = true
     ·subst c34
      have H1 : (some true) = some r := by rw [if_pos rfl] at H; exact H
      clear H
      have H := H1
      clear H1
      obtain rfl := Option.some.inj H
      try go_wp2
      have n0_ := Aside0.mk (Kd.R_drew HO_1171000.out)
      have n1_ := Aside0.mk (Kd.R_drew HO_1171001.out)
      have n2_ := Aside0.mk (Kd.R_drew HO_1171002.out)
      have n3_ := Aside0.mk (blk_drew BK1144.out)
      have n4_ := Aside0.mk (blk_drew BK1170.out)
      have n5_ := Aside0.mk (below_drew1 HB.out)
      clear HO_1171000
      clear HO_1171001
      clear HO_1171002
      clear BK1144
      clear BK1170
      clear HB
      have HO_1171000 := n0_
      have HO_1171001 := n1_
      have HO_1171002 := n2_
      have BK1144 := n3_
      have BK1170 := n4_
      have HB := n5_
      clear n0_ n1_ n2_ n3_ n4_ n5_
      refine start_ (n := 5) (S := fun w' => w'.cell? ⟨gb1170, 0, none⟩ = some (.slice Ao24 t1159.length co24) ∧ w'.cell? ⟨gb1170, 1, none⟩ = some (.slice Ao27 t1162.length co27) ∧ w'.cell? ⟨gb1170, 2, none⟩ = some (.slice Ao28 t1165.length co28) ∧ w'.cell? ⟨gb1170, 3, none⟩ = some (.int .i64 t1168) ∧ w'.cell? ⟨gb1170, 4, none⟩ = some (.int .i64 t1169) ∧ w'.cell? ⟨gb1144, 0, none⟩ = some (.slice A0_0 l0_0.length c0_0) ∧ w'.cell? ⟨gb1144, 1, none⟩ = some (.slice A0_1 l0_1.length c0_1) ∧ w'.cell? ⟨gb1144, 2, none⟩ = some (.slice A0_2 l0_2.length c0_2) ∧ w'.cell? ⟨gb1144, 3, none⟩ = some (.int .i64 a0_3) ∧ w'.cell? ⟨gb1144, 4, none⟩ = some (.int .i64 a0_4)) (ds := []) #[false, false, false, false, false] (by kernel_rfl) rfl rfl ⟨(blk_cell BK1170.out 0).trans rfl, (blk_cell BK1170.out 1).trans rfl, (blk_cell BK1170.out 2).trans rfl, (blk_cell BK1170.out 3).trans rfl, (blk_cell BK1170.out 4).trans rfl, (blk_cell BK1144.out 0).trans rfl, (blk_cell BK1144.out 1).trans rfl, (blk_cell BK1144.out 2).trans rfl, (blk_cell BK1144.out 3).trans rfl, (blk_cell BK1144.out 4).trans rfl⟩ (fun hHeld => ?_)
      generalize wc.drew = w35 at HO_1171000 HO_1171001 HO_1171002 BK1144 BK1170 HB hHeld ⊢
      refine take_ (i := 0) (N := some 35) (v := ?_) (a' := ?_) #[true, false, false, false, false] rfl rfl (by kernel_rfl) (fun _ _ _ h => h) (Or.inl ⟨by rfl, ?_⟩) hHeld ?_ ?_
      rotate_left
      ·rintro w' ⟨s0, s1, s2, s3, s4, s5, s6, s7, s8, s9⟩
       go_simp
       with_reducible rfl
      rotate_left
      ·simp only [Act.put, List.setIfInBounds_toArray, List.set_cons_zero, List.set_cons_succ, i64_w, i32_w]
       rfl
      refine take_ (i := 1) (N := some 36) (v := ?_) (a' := ?_) #[true, true, false, false, false] rfl rfl (by kernel_rfl) (fun _ _ _ h => h) (Or.inl ⟨by rfl, ?_⟩) hHeld ?_ ?_
      rotate_left
      ·rintro w' ⟨s0, s1, s2, s3, s4, s5, s6, s7, s8, s9⟩
       go_simp
       with_reducible rfl
      rotate_left
      ·simp only [Act.put, List.setIfInBounds_toArray, List.set_cons_zero, List.set_cons_succ, i64_w, i32_w]
       rfl
      refine one_ (i := 2) (N := some 37) #[true, true, true, false, false] rfl rfl (by kernel_rfl) (by decide) (fun K hK => ?_)
      refine goes_ Try.func39 (by kernel_rfl) rfl #[.agg #[.slice A0_0 l0_0.length c0_0, .slice A0_1 l0_1.length c0_1, .slice A0_2 l0_2.length c0_2, .int .i64 a0_3, .int .i64 a0_4]] (by rfl) rfl rfl (by (try simp only [List.map_toArray, List.map_cons, List.map_nil]); first | done | rfl | (simp only [List.length_drop, List.length_take]; rfl)) ?_
      with_reducible refine (laws_toHead.calls kj10 _ _ l0_0 _ _ l0_1 _ _ l0_2 a0_3 a0_4 t1173 t1176 t1179 t1182 t1183 _ ?side1 ?side2 ?side3 ?side4 ?side5 ?side6 A32.out).mono ?_
      (case side1 => repeat (first | exact (Kd.C_below HR0_0.out HB.out) | (with_reducible refine Kd.C_alloc ?_ _) | (with_reducible refine Kd.C_drewN ?_ _) | (with_reducible refine Kd.C_drew ?_)))
      (case side2 => exact HC0_0.out)
      (case side3 => repeat (first | exact (Kd.C_below HR0_1.out HB.out) | (with_reducible refine Kd.C_alloc ?_ _) | (with_reducible refine Kd.C_drewN ?_ _) | (with_reducible refine Kd.C_drew ?_)))
      (case side4 => exact HC0_1.out)
      (case side5 => repeat (first | exact (Kd.C_below HR0_2.out HB.out) | (with_reducible refine Kd.C_alloc ?_ _) | (with_reducible refine Kd.C_drewN ?_ _) | (with_reducible refine Kd.C_drew ?_)))
      (case side6 => exact HC0_2.out)
      rintro e w36 ⟨v1174, v1177, v1180, rfl, ho0, ho1, ho2, hb⟩
      refine ⟨_, rfl, ?_⟩
      have n0_ := Aside0.mk (Kd.R_elder' (by (with_reducible repeat (first | apply Kd.R_alloc | apply Kd.R_drewN | apply Kd.R_drew)); exact HO_1171000.out) (Kd.R_base ho0) hb)
      have n1_ := Aside0.mk (Kd.R_mono (Kd.R_told (Kd.R_told (Kd.R_old (by (with_reducible repeat (first | apply Kd.R_alloc | apply Kd.R_drewN | apply Kd.R_drew)); exact HO_1171001.out) hb) (Kd.R_base ho1)) (Kd.R_base ho2)) (fun _ h_ => h_.1))
      have n2_ := Aside0.mk (Kd.R_mono (Kd.R_told (Kd.R_told (Kd.R_old (by (with_reducible repeat (first | apply Kd.R_alloc | apply Kd.R_drewN | apply Kd.R_drew)); exact HO_1171002.out) hb) (Kd.R_base ho1)) (Kd.R_base ho2)) (fun _ h_ => h_.1))
      have n3_ := Aside0.mk (Kd.R_lower (Kd.R_new' ho0 (Kd.R_lt (by (with_reducible repeat (first | apply Kd.R_alloc | apply Kd.R_drewN | apply Kd.R_drew)); exact HO_1171000.out))) (below_size (by repeat (first | (with_reducible first | exact HB.out | apply below_alloc | apply pw_below_drewN | apply below_drew1 | refine below_set ?_ GE1144.out | refine below_set ?_ GE1170.out) | exact HB.out))))
      have n4_ := Aside0.mk (Kd.R_lower (Kd.R_new' (Kd.R_new' ho1 (Kd.R_lt (by (with_reducible repeat (first | apply Kd.R_alloc | apply Kd.R_drewN | apply Kd.R_drew)); exact HO_1171001.out))) (Kd.R_lt (by (with_reducible repeat (first | apply Kd.R_alloc | apply Kd.R_drewN | apply Kd.R_drew)); exact HO_1171002.out))) (below_size (by repeat (first | (with_reducible first | exact HB.out | apply below_alloc | apply pw_below_drewN | apply below_drew1 | refine below_set ?_ GE1144.out | refine below_set ?_ GE1170.out) | exact HB.out))))
      have n5_ := Aside0.mk (Kd.R_lower (Kd.R_new' (Kd.R_new' ho2 (Kd.R_lt (by (with_reducible repeat (first | apply Kd.R_alloc | apply Kd.R_drewN | apply Kd.R_drew)); exact HO_1171001.out))) (Kd.R_lt (by (with_reducible repeat (first | apply Kd.R_alloc | apply Kd.R_drewN | apply Kd.R_drew)); exact HO_1171002.out))) (below_size (by repeat (first | (with_reducible first | exact HB.out | apply below_alloc | apply pw_below_drewN | apply below_drew1 | refine below_set ?_ GE1144.out | refine below_set ?_ GE1170.out) | exact HB.out))))
      have n6_ := Aside0.mk (blk_below (g := gb1144) (o := .cells #[.slice A0_0 l0_0.length c0_0, .slice A0_1 l0_1.length c0_1, .slice A0_2 l0_2.length c0_2, .int .i64 a0_3, .int .i64 a0_4] 59 (0, 0)) (by (with_reducible repeat (first | refine blk_drewN ?_ _ | refine blk_drew ?_ | refine blk_alloc ?_ _)); exact BK1144.out) hb)
      have n7_ := Aside0.mk (blk_below (g := gb1170) (o := .cells #[.slice Ao24 t1159.length co24, .slice Ao27 t1162.length co27, .slice Ao28 t1165.length co28, .int .i64 t1168, .int .i64 t1169] 64 (0, 0)) (by (with_reducible repeat (first | refine blk_drewN ?_ _ | refine blk_drew ?_ | refine blk_alloc ?_ _)); exact BK1170.out) hb)
      have n8_ := Aside0.mk (below_step (by repeat (first | (with_reducible first | exact HB.out | apply below_alloc | apply pw_below_drewN | apply below_drew1 | refine below_set ?_ GE1144.out | refine below_set ?_ GE1170.out) | exact HB.out)) hb)
      clear HO_1171000
      clear HO_1171001
      clear HO_1171002
      clear BK1144
      clear BK1170
      clear HB
      have HO_1171000 := n0_
      have HO_1171001 := n1_
      have HO_1171002 := n2_
      have HO1175 := n3_
      have HO1178 := n4_
      have HO1181 := n5_
      have BK1144 := n6_
      have BK1170 := n7_
      have HB := n8_
      clear n0_ n1_ n2_ n3_ n4_ n5_ n6_ n7_ n8_
      (try clear hb)
      (try clear hb2)
      (try clear hk)
      (try clear hi)
      (try clear ho0)
      (try clear ho1)
      (try clear ho2)
      obtain ⟨Ao37, co37, eo37⟩ := Kd.R_slice HO1175.out
      (first | subst eo37 | (injection eo37 with f1_ f2_ f3_; have f4_ := f1_.symm; have f5_ := f3_.symm; clear f1_ f2_ f3_; subst f4_; subst f5_))
      obtain ⟨Ao38, co38, eo38⟩ := Kd.R_slice HO1178.out
      (first | subst eo38 | (injection eo38 with f1_ f2_ f3_; have f4_ := f1_.symm; have f5_ := f3_.symm; clear f1_ f2_ f3_; subst f4_; subst f5_))
      obtain ⟨Ao39, co39, eo39⟩ := Kd.R_slice HO1181.out
      (first | subst eo39 | (injection eo39 with f1_ f2_ f3_; have f4_ := f1_.symm; have f5_ := f3_.symm; clear f1_ f2_ f3_; subst f4_; subst f5_))
      refine hK.out _ _ ⟨(blk_cell BK1170.out 0).trans rfl, (blk_cell BK1170.out 1).trans rfl, (blk_cell BK1170.out 2).trans rfl, (blk_cell BK1170.out 3).trans rfl, (blk_cell BK1170.out 4).trans rfl, (blk_cell BK1144.out 0).trans rfl, (blk_cell BK1144.out 1).trans rfl, (blk_cell BK1144.out 2).trans rfl, (blk_cell BK1144.out 3).trans rfl, (blk_cell BK1144.out 4).trans rfl⟩ (fun hHeld => ?_)
      clear hK K
      refine norm_ (a' := ?_) ?_ ?_
      rotate_left
      ·show Act.put _ (some 37) _ = _
       simp only [Act.put, List.setIfInBounds_toArray, List.set_cons_zero, List.set_cons_succ, i64_w, i32_w]
       rfl
      refine one_ (i := 3) (N := some 38) #[true, true, true, true, false] rfl rfl (by kernel_rfl) (by decide) (fun K hK => ?_)
      refine goes_ Try.func41 (by kernel_rfl) rfl #[.agg #[.slice Ao24 t1159.length co24, .slice Ao27 t1162.length co27, .slice Ao28 t1165.length co28, .int .i64 t1168, .int .i64 t1169], .agg #[.slice Ao37 t1173.length co37, .slice Ao38 t1176.length co38, .slice Ao39 t1179.length co39, .int .i64 t1182, .int .i64 t1183]] (by rfl) rfl rfl (by (try simp only [List.map_toArray, List.map_cons, List.map_nil]); first | done | rfl | (simp only [List.length_drop, List.length_take]; rfl)) ?_
      with_reducible refine (laws_eqHead.calls kj10 _ _ t1159 _ _ t1162 _ _ t1165 t1168 t1169 _ _ t1173 _ _ t1176 _ _ t1179 t1182 t1183 true _ ?side1 ?side2 ?side3 ?side4 ?side5 ?side6 ?side7 ?side8 ?side9 ?side10 ?side11 ?side12 A33.out).mono ?_
      (case side1 => repeat (first | exact (Kd.R_reads' HO_1171000.out).2.2 | (with_reducible refine Kd.C_alloc ?_ _) | (with_reducible refine Kd.C_drewN ?_ _) | (with_reducible refine Kd.C_drew ?_)))
      (case side2 => exact (Kd.R_reads' HO_1171000.out).2.1)
      (case side3 => repeat (first | exact (Kd.R_reads' HO_1171001.out).2.2 | (with_reducible refine Kd.C_alloc ?_ _) | (with_reducible refine Kd.C_drewN ?_ _) | (with_reducible refine Kd.C_drew ?_)))
      (case side4 => exact (Kd.R_reads' HO_1171001.out).2.1)
      (case side5 => repeat (first | exact (Kd.R_reads' HO_1171002.out).2.2 | (with_reducible refine Kd.C_alloc ?_ _) | (with_reducible refine Kd.C_drewN ?_ _) | (with_reducible refine Kd.C_drew ?_)))
      (case side6 => exact (Kd.R_reads' HO_1171002.out).2.1)
      (case side7 => repeat (first | exact (Kd.R_reads' HO1175.out).2.2 | (with_reducible refine Kd.C_alloc ?_ _) | (with_reducible refine Kd.C_drewN ?_ _) | (with_reducible refine Kd.C_drew ?_)))
      (case side8 => exact (Kd.R_reads' HO1175.out).2.1)
      (case side9 => repeat (first | exact (Kd.R_reads' HO1178.out).2.2 | (with_reducible refine Kd.C_alloc ?_ _) | (with_reducible refine Kd.C_drewN ?_ _) | (with_reducible refine Kd.C_drew ?_)))
      (case side10 => exact (Kd.R_reads' HO1178.out).2.1)
      (case side11 => repeat (first | exact (Kd.R_reads' HO1181.out).2.2 | (with_reducible refine Kd.C_alloc ?_ _) | (with_reducible refine Kd.C_drewN ?_ _) | (with_reducible refine Kd.C_drew ?_)))
      (case side12 => exact (Kd.R_reads' HO1181.out).2.1)
      rintro e w40 ⟨rfl, hb⟩
      refine ⟨_, rfl, ?_⟩
      have n0_ := Aside0.mk (Kd.R_below (by (with_reducible repeat (first | apply Kd.R_alloc | apply Kd.R_drewN | apply Kd.R_drew)); exact HO_1171000.out) hb)
      have n1_ := Aside0.mk (Kd.R_below (by (with_reducible repeat (first | apply Kd.R_alloc | apply Kd.R_drewN | apply Kd.R_drew)); exact HO_1171001.out) hb)
      have n2_ := Aside0.mk (Kd.R_below (by (with_reducible repeat (first | apply Kd.R_alloc | apply Kd.R_drewN | apply Kd.R_drew)); exact HO_1171002.out) hb)
      have n3_ := Aside0.mk (Kd.R_below (by (with_reducible repeat (first | apply Kd.R_alloc | apply Kd.R_drewN | apply Kd.R_drew)); exact HO1175.out) hb)
      have n4_ := Aside0.mk (Kd.R_below (by (with_reducible repeat (first | apply Kd.R_alloc | apply Kd.R_drewN | apply Kd.R_drew)); exact HO1178.out) hb)
      have n5_ := Aside0.mk (Kd.R_below (by (with_reducible repeat (first | apply Kd.R_alloc | apply Kd.R_drewN | apply Kd.R_drew)); exact HO1181.out) hb)
      have n6_ := Aside0.mk (blk_below (g := gb1144) (o := .cells #[.slice A0_0 l0_0.length c0_0, .slice A0_1 l0_1.length c0_1, .slice A0_2 l0_2.length c0_2, .int .i64 a0_3, .int .i64 a0_4] 59 (0, 0)) (by (with_reducible repeat (first | refine blk_drewN ?_ _ | refine blk_drew ?_ | refine blk_alloc ?_ _)); exact BK1144.out) hb)
      have n7_ := Aside0.mk (blk_below (g := gb1170) (o := .cells #[.slice Ao24 t1159.length co24, .slice Ao27 t1162.length co27, .slice Ao28 t1165.length co28, .int .i64 t1168, .int .i64 t1169] 64 (0, 0)) (by (with_reducible repeat (first | refine blk_drewN ?_ _ | refine blk_drew ?_ | refine blk_alloc ?_ _)); exact BK1170.out) hb)
      have n8_ := Aside0.mk (below_step (by repeat (first | (with_reducible first | exact HB.out | apply below_alloc | apply pw_below_drewN | apply below_drew1 | refine below_set ?_ GE1144.out | refine below_set ?_ GE1170.out) | exact HB.out)) hb)
      clear HO_1171000
      clear HO_1171001
      clear HO_1171002
      clear HO1175
      clear HO1178
      clear HO1181
      clear BK1144
      clear BK1170
      clear HB
      have HO_1171000 := n0_
      have HO_1171001 := n1_
      have HO_1171002 := n2_
      have HO1175 := n3_
      have HO1178 := n4_
      have HO1181 := n5_
      have BK1144 := n6_
      have BK1170 := n7_
      have HB := n8_
      clear n0_ n1_ n2_ n3_ n4_ n5_ n6_ n7_ n8_
      (try clear hb)
      (try clear hb2)
      (try clear hk)
      (try clear hi)
      refine hK.out _ _ ⟨(blk_cell BK1170.out 0).trans rfl, (blk_cell BK1170.out 1).trans rfl, (blk_cell BK1170.out 2).trans rfl, (blk_cell BK1170.out 3).trans rfl, (blk_cell BK1170.out 4).trans rfl, (blk_cell BK1144.out 0).trans rfl, (blk_cell BK1144.out 1).trans rfl, (blk_cell BK1144.out 2).trans rfl, (blk_cell BK1144.out 3).trans rfl, (blk_cell BK1144.out 4).trans rfl⟩ (fun hHeld => ?_)
      clear hK K
      refine norm_ (a' := ?_) ?_ ?_
      rotate_left
      ·show Act.put _ (some 38) _ = _
       simp only [Act.put, List.setIfInBounds_toArray, List.set_cons_zero, List.set_cons_succ, i64_w, i32_w]
       rfl
      refine pure_ (i := 4) (N := some 39) (v := ?_) (a' := ?_) #[true, true, true, true, true] rfl rfl (by kernel_rfl) (fun _ _ _ h => h) (Or.inl ⟨by rfl, ?_⟩) ?_ ?_
      rotate_left
      ·intro w'
       go_simp
       with_reducible rfl
      rotate_left
      ·simp only [Act.put, List.setIfInBounds_toArray, List.set_cons_zero, List.set_cons_succ, i64_w, i32_w]
       rfl
      refine done_ (by kernel_rfl) ?_
      try go_wp2
      go_ret
      exact ⟨by first | rfl | (simp [errW_none, errW_some] <;> rfl) | (simp [*, errW_none, errW_some] <;> rfl) | (simp [Int.tdiv_eq_ediv_of_nonneg, *]; done), by repeat (first | (with_reducible first | exact HB.out | apply below_alloc | apply pw_below_drewN | apply below_drew1 | refine below_set ?_ GE1144.out | refine below_set ?_ GE1170.out) | exact HB.out)⟩
     ·replace c34 := Bool.eq_false_iff.mpr c34
      subst c34
      have H1 : (some false) = some r := by rw [if_neg (show ¬ (false = true) by decide)] at H; exact H
      clear H
      have H := H1
      clear H1
      obtain rfl := Option.some.inj H
      try go_wp2
      have n0_ := Aside0.mk (Kd.R_drew HO_1171000.out)
      have n1_ := Aside0.mk (Kd.R_drew HO_1171001.out)
      have n2_ := Aside0.mk (Kd.R_drew HO_1171002.out)
      have n3_ := Aside0.mk (blk_drew BK1144.out)
      have n4_ := Aside0.mk (blk_drew BK1170.out)
      have n5_ := Aside0.mk (below_drew1 HB.out)
      clear HO_1171000
      clear HO_1171001
      clear HO_1171002
      clear BK1144
      clear BK1170
      clear HB
      have HO_1171000 := n0_
      have HO_1171001 := n1_
      have HO_1171002 := n2_
      have BK1144 := n3_
      have BK1170 := n4_
      have HB := n5_
      clear n0_ n1_ n2_ n3_ n4_ n5_
      refine start_ (n := 5) (S := fun w' => w'.cell? ⟨gb1170, 0, none⟩ = some (.slice Ao24 t1159.length co24) ∧ w'.cell? ⟨gb1170, 1, none⟩ = some (.slice Ao27 t1162.length co27) ∧ w'.cell? ⟨gb1170, 2, none⟩ = some (.slice Ao28 t1165.length co28) ∧ w'.cell? ⟨gb1170, 3, none⟩ = some (.int .i64 t1168) ∧ w'.cell? ⟨gb1170, 4, none⟩ = some (.int .i64 t1169) ∧ w'.cell? ⟨gb1144, 0, none⟩ = some (.slice A0_0 l0_0.length c0_0) ∧ w'.cell? ⟨gb1144, 1, none⟩ = some (.slice A0_1 l0_1.length c0_1) ∧ w'.cell? ⟨gb1144, 2, none⟩ = some (.slice A0_2 l0_2.length c0_2) ∧ w'.cell? ⟨gb1144, 3, none⟩ = some (.int .i64 a0_3) ∧ w'.cell? ⟨gb1144, 4, none⟩ = some (.int .i64 a0_4)) (ds := []) #[false, false, false, false, false] (by kernel_rfl) rfl rfl ⟨(blk_cell BK1170.out 0).trans rfl, (blk_cell BK1170.out 1).trans rfl, (blk_cell BK1170.out 2).trans rfl, (blk_cell BK1170.out 3).trans rfl, (blk_cell BK1170.out 4).trans rfl, (blk_cell BK1144.out 0).trans rfl, (blk_cell BK1144.out 1).trans rfl, (blk_cell BK1144.out 2).trans rfl, (blk_cell BK1144.out 3).trans rfl, (blk_cell BK1144.out 4).trans rfl⟩ (fun hHeld => ?_)
      generalize wc.drew = w41 at HO_1171000 HO_1171001 HO_1171002 BK1144 BK1170 HB hHeld ⊢
      refine take_ (i := 0) (N := some 35) (v := ?_) (a' := ?_) #[true, false, false, false, false] rfl rfl (by kernel_rfl) (fun _ _ _ h => h) (Or.inl ⟨by rfl, ?_⟩) hHeld ?_ ?_
      rotate_left
      ·rintro w' ⟨s0, s1, s2, s3, s4, s5, s6, s7, s8, s9⟩
       go_simp
       with_reducible rfl
      rotate_left
      ·simp only [Act.put, List.setIfInBounds_toArray, List.set_cons_zero, List.set_cons_succ, i64_w, i32_w]
       rfl
      refine take_ (i := 1) (N := some 36) (v := ?_) (a' := ?_) #[true, true, false, false, false] rfl rfl (by kernel_rfl) (fun _ _ _ h => h) (Or.inl ⟨by rfl, ?_⟩) hHeld ?_ ?_
      rotate_left
      ·rintro w' ⟨s0, s1, s2, s3, s4, s5, s6, s7, s8, s9⟩
       go_simp
       with_reducible rfl
      rotate_left
      ·simp only [Act.put, List.setIfInBounds_toArray, List.set_cons_zero, List.set_cons_succ, i64_w, i32_w]
       rfl
      refine one_ (i := 2) (N := some 37) #[true, true, true, false, false] rfl rfl (by kernel_rfl) (by decide) (fun K hK => ?_)
      refine goes_ Try.func39 (by kernel_rfl) rfl #[.agg #[.slice A0_0 l0_0.length c0_0, .slice A0_1 l0_1.length c0_1, .slice A0_2 l0_2.length c0_2, .int .i64 a0_3, .int .i64 a0_4]] (by rfl) rfl rfl (by (try simp only [List.map_toArray, List.map_cons, List.map_nil]); first | done | rfl | (simp only [List.length_drop, List.length_take]; rfl)) ?_
      with_reducible refine (laws_toHead.calls kj10 _ _ l0_0 _ _ l0_1 _ _ l0_2 a0_3 a0_4 t1173 t1176 t1179 t1182 t1183 _ ?side1 ?side2 ?side3 ?side4 ?side5 ?side6 A32.out).mono ?_
      (case side1 => repeat (first | exact (Kd.C_below HR0_0.out HB.out) | (with_reducible refine Kd.C_alloc ?_ _) | (with_reducible refine Kd.C_drewN ?_ _) | (with_reducible refine Kd.C_drew ?_)))
      (case side2 => exact HC0_0.out)
      (case side3 => repeat (first | exact (Kd.C_below HR0_1.out HB.out) | (with_reducible refine Kd.C_alloc ?_ _) | (with_reducible refine Kd.C_drewN ?_ _) | (with_reducible refine Kd.C_drew ?_)))
      (case side4 => exact HC0_1.out)
      (case side5 => repeat (first | exact (Kd.C_below HR0_2.out HB.out) | (with_reducible refine Kd.C_alloc ?_ _) | (with_reducible refine Kd.C_drewN ?_ _) | (with_reducible refine Kd.C_drew ?_)))
      (case side6 => exact HC0_2.out)
      rintro e w42 ⟨v1174, v1177, v1180, rfl, ho0, ho1, ho2, hb⟩
      refine ⟨_, rfl, ?_⟩
      have n0_ := Aside0.mk (Kd.R_elder' (by (with_reducible repeat (first | apply Kd.R_alloc | apply Kd.R_drewN | apply Kd.R_drew)); exact HO_1171000.out) (Kd.R_base ho0) hb)
      have n1_ := Aside0.mk (Kd.R_mono (Kd.R_told (Kd.R_told (Kd.R_old (by (with_reducible repeat (first | apply Kd.R_alloc | apply Kd.R_drewN | apply Kd.R_drew)); exact HO_1171001.out) hb) (Kd.R_base ho1)) (Kd.R_base ho2)) (fun _ h_ => h_.1))
      have n2_ := Aside0.mk (Kd.R_mono (Kd.R_told (Kd.R_told (Kd.R_old (by (with_reducible repeat (first | apply Kd.R_alloc | apply Kd.R_drewN | apply Kd.R_drew)); exact HO_1171002.out) hb) (Kd.R_base ho1)) (Kd.R_base ho2)) (fun _ h_ => h_.1))
      have n3_ := Aside0.mk (Kd.R_lower (Kd.R_new' ho0 (Kd.R_lt (by (with_reducible repeat (first | apply Kd.R_alloc | apply Kd.R_drewN | apply Kd.R_drew)); exact HO_1171000.out))) (below_size (by repeat (first | (with_reducible first | exact HB.out | apply below_alloc | apply pw_below_drewN | apply below_drew1 | refine below_set ?_ GE1144.out | refine below_set ?_ GE1170.out) | exact HB.out))))
      have n4_ := Aside0.mk (Kd.R_lower (Kd.R_new' (Kd.R_new' ho1 (Kd.R_lt (by (with_reducible repeat (first | apply Kd.R_alloc | apply Kd.R_drewN | apply Kd.R_drew)); exact HO_1171001.out))) (Kd.R_lt (by (with_reducible repeat (first | apply Kd.R_alloc | apply Kd.R_drewN | apply Kd.R_drew)); exact HO_1171002.out))) (below_size (by repeat (first | (with_reducible first | exact HB.out | apply below_alloc | apply pw_below_drewN | apply below_drew1 | refine below_set ?_ GE1144.out | refine below_set ?_ GE1170.out) | exact HB.out))))
      have n5_ := Aside0.mk (Kd.R_lower (Kd.R_new' (Kd.R_new' ho2 (Kd.R_lt (by (with_reducible repeat (first | apply Kd.R_alloc | apply Kd.R_drewN | apply Kd.R_drew)); exact HO_1171001.out))) (Kd.R_lt (by (with_reducible repeat (first | apply Kd.R_alloc | apply Kd.R_drewN | apply Kd.R_drew)); exact HO_1171002.out))) (below_size (by repeat (first | (with_reducible first | exact HB.out | apply below_alloc | apply pw_below_drewN | apply below_drew1 | refine below_set ?_ GE1144.out | refine below_set ?_ GE1170.out) | exact HB.out))))
      have n6_ := Aside0.mk (blk_below (g := gb1144) (o := .cells #[.slice A0_0 l0_0.length c0_0, .slice A0_1 l0_1.length c0_1, .slice A0_2 l0_2.length c0_2, .int .i64 a0_3, .int .i64 a0_4] 59 (0, 0)) (by (with_reducible repeat (first | refine blk_drewN ?_ _ | refine blk_drew ?_ | refine blk_alloc ?_ _)); exact BK1144.out) hb)
      have n7_ := Aside0.mk (blk_below (g := gb1170) (o := .cells #[.slice Ao24 t1159.length co24, .slice Ao27 t1162.length co27, .slice Ao28 t1165.length co28, .int .i64 t1168, .int .i64 t1169] 64 (0, 0)) (by (with_reducible repeat (first | refine blk_drewN ?_ _ | refine blk_drew ?_ | refine blk_alloc ?_ _)); exact BK1170.out) hb)
      have n8_ := Aside0.mk (below_step (by repeat (first | (with_reducible first | exact HB.out | apply below_alloc | apply pw_below_drewN | apply below_drew1 | refine below_set ?_ GE1144.out | refine below_set ?_ GE1170.out) | exact HB.out)) hb)
      clear HO_1171000
      clear HO_1171001
      clear HO_1171002
      clear BK1144
      clear BK1170
      clear HB
      have HO_1171000 := n0_
      have HO_1171001 := n1_
      have HO_1171002 := n2_
      have HO1175 := n3_
      have HO1178 := n4_
      have HO1181 := n5_
      have BK1144 := n6_
      have BK1170 := n7_
      have HB := n8_
      clear n0_ n1_ n2_ n3_ n4_ n5_ n6_ n7_ n8_
      (try clear hb)
      (try clear hb2)
      (try clear hk)
      (try clear hi)
      (try clear ho0)
      (try clear ho1)
      (try clear ho2)
      obtain ⟨Ao43, co43, eo43⟩ := Kd.R_slice HO1175.out
      (first | subst eo43 | (injection eo43 with f1_ f2_ f3_; have f4_ := f1_.symm; have f5_ := f3_.symm; clear f1_ f2_ f3_; subst f4_; subst f5_))
      obtain ⟨Ao44, co44, eo44⟩ := Kd.R_slice HO1178.out
      (first | subst eo44 | (injection eo44 with f1_ f2_ f3_; have f4_ := f1_.symm; have f5_ := f3_.symm; clear f1_ f2_ f3_; subst f4_; subst f5_))
      obtain ⟨Ao45, co45, eo45⟩ := Kd.R_slice HO1181.out
      (first | subst eo45 | (injection eo45 with f1_ f2_ f3_; have f4_ := f1_.symm; have f5_ := f3_.symm; clear f1_ f2_ f3_; subst f4_; subst f5_))
      refine hK.out _ _ ⟨(blk_cell BK1170.out 0).trans rfl, (blk_cell BK1170.out 1).trans rfl, (blk_cell BK1170.out 2).trans rfl, (blk_cell BK1170.out 3).trans rfl, (blk_cell BK1170.out 4).trans rfl, (blk_cell BK1144.out 0).trans rfl, (blk_cell BK1144.out 1).trans rfl, (blk_cell BK1144.out 2).trans rfl, (blk_cell BK1144.out 3).trans rfl, (blk_cell BK1144.out 4).trans rfl⟩ (fun hHeld => ?_)
      clear hK K
      refine norm_ (a' := ?_) ?_ ?_
      rotate_left
      ·show Act.put _ (some 37) _ = _
       simp only [Act.put, List.setIfInBounds_toArray, List.set_cons_zero, List.set_cons_succ, i64_w, i32_w]
       rfl
      refine one_ (i := 3) (N := some 38) #[true, true, true, true, false] rfl rfl (by kernel_rfl) (by decide) (fun K hK => ?_)
      refine goes_ Try.func41 (by kernel_rfl) rfl #[.agg #[.slice Ao24 t1159.length co24, .slice Ao27 t1162.length co27, .slice Ao28 t1165.length co28, .int .i64 t1168, .int .i64 t1169], .agg #[.slice Ao43 t1173.length co43, .slice Ao44 t1176.length co44, .slice Ao45 t1179.length co45, .int .i64 t1182, .int .i64 t1183]] (by rfl) rfl rfl (by (try simp only [List.map_toArray, List.map_cons, List.map_nil]); first | done | rfl | (simp only [List.length_drop, List.length_take]; rfl)) ?_
      with_reducible refine (laws_eqHead.calls kj10 _ _ t1159 _ _ t1162 _ _ t1165 t1168 t1169 _ _ t1173 _ _ t1176 _ _ t1179 t1182 t1183 false _ ?side1 ?side2 ?side3 ?side4 ?side5 ?side6 ?side7 ?side8 ?side9 ?side10 ?side11 ?side12 A33.out).mono ?_
      (case side1 => repeat (first | exact (Kd.R_reads' HO_1171000.out).2.2 | (with_reducible refine Kd.C_alloc ?_ _) | (with_reducible refine Kd.C_drewN ?_ _) | (with_reducible refine Kd.C_drew ?_)))
      (case side2 => exact (Kd.R_reads' HO_1171000.out).2.1)
      (case side3 => repeat (first | exact (Kd.R_reads' HO_1171001.out).2.2 | (with_reducible refine Kd.C_alloc ?_ _) | (with_reducible refine Kd.C_drewN ?_ _) | (with_reducible refine Kd.C_drew ?_)))
      (case side4 => exact (Kd.R_reads' HO_1171001.out).2.1)
      (case side5 => repeat (first | exact (Kd.R_reads' HO_1171002.out).2.2 | (with_reducible refine Kd.C_alloc ?_ _) | (with_reducible refine Kd.C_drewN ?_ _) | (with_reducible refine Kd.C_drew ?_)))
      (case side6 => exact (Kd.R_reads' HO_1171002.out).2.1)
      (case side7 => repeat (first | exact (Kd.R_reads' HO1175.out).2.2 | (with_reducible refine Kd.C_alloc ?_ _) | (with_reducible refine Kd.C_drewN ?_ _) | (with_reducible refine Kd.C_drew ?_)))
      (case side8 => exact (Kd.R_reads' HO1175.out).2.1)
      (case side9 => repeat (first | exact (Kd.R_reads' HO1178.out).2.2 | (with_reducible refine Kd.C_alloc ?_ _) | (with_reducible refine Kd.C_drewN ?_ _) | (with_reducible refine Kd.C_drew ?_)))
      (case side10 => exact (Kd.R_reads' HO1178.out).2.1)
      (case side11 => repeat (first | exact (Kd.R_reads' HO1181.out).2.2 | (with_reducible refine Kd.C_alloc ?_ _) | (with_reducible refine Kd.C_drewN ?_ _) | (with_reducible refine Kd.C_drew ?_)))
      (case side12 => exact (Kd.R_reads' HO1181.out).2.1)
      rintro e w46 ⟨rfl, hb⟩
      refine ⟨_, rfl, ?_⟩
      have n0_ := Aside0.mk (Kd.R_below (by (with_reducible repeat (first | apply Kd.R_alloc | apply Kd.R_drewN | apply Kd.R_drew)); exact HO_1171000.out) hb)
      have n1_ := Aside0.mk (Kd.R_below (by (with_reducible repeat (first | apply Kd.R_alloc | apply Kd.R_drewN | apply Kd.R_drew)); exact HO_1171001.out) hb)
      have n2_ := Aside0.mk (Kd.R_below (by (with_reducible repeat (first | apply Kd.R_alloc | apply Kd.R_drewN | apply Kd.R_drew)); exact HO_1171002.out) hb)
      have n3_ := Aside0.mk (Kd.R_below (by (with_reducible repeat (first | apply Kd.R_alloc | apply Kd.R_drewN | apply Kd.R_drew)); exact HO1175.out) hb)
      have n4_ := Aside0.mk (Kd.R_below (by (with_reducible repeat (first | apply Kd.R_alloc | apply Kd.R_drewN | apply Kd.R_drew)); exact HO1178.out) hb)
      have n5_ := Aside0.mk (Kd.R_below (by (with_reducible repeat (first | apply Kd.R_alloc | apply Kd.R_drewN | apply Kd.R_drew)); exact HO1181.out) hb)
      have n6_ := Aside0.mk (blk_below (g := gb1144) (o := .cells #[.slice A0_0 l0_0.length c0_0, .slice A0_1 l0_1.length c0_1, .slice A0_2 l0_2.length c0_2, .int .i64 a0_3, .int .i64 a0_4] 59 (0, 0)) (by (with_reducible repeat (first | refine blk_drewN ?_ _ | refine blk_drew ?_ | refine blk_alloc ?_ _)); exact BK1144.out) hb)
      have n7_ := Aside0.mk (blk_below (g := gb1170) (o := .cells #[.slice Ao24 t1159.length co24, .slice Ao27 t1162.length co27, .slice Ao28 t1165.length co28, .int .i64 t1168, .int .i64 t1169] 64 (0, 0)) (by (with_reducible repeat (first | refine blk_drewN ?_ _ | refine blk_drew ?_ | refine blk_alloc ?_ _)); exact BK1170.out) hb)
      have n8_ := Aside0.mk (below_step (by repeat (first | (with_reducible first | exact HB.out | apply below_alloc | apply pw_below_drewN | apply below_drew1 | refine below_set ?_ GE1144.out | refine below_set ?_ GE1170.out) | exact HB.out)) hb)
      clear HO_1171000
      clear HO_1171001
      clear HO_1171002
      clear HO1175
      clear HO1178
      clear HO1181
      clear BK1144
      clear BK1170
      clear HB
      have HO_1171000 := n0_
      have HO_1171001 := n1_
      have HO_1171002 := n2_
      have HO1175 := n3_
      have HO1178 := n4_
      have HO1181 := n5_
      have BK1144 := n6_
      have BK1170 := n7_
      have HB := n8_
      clear n0_ n1_ n2_ n3_ n4_ n5_ n6_ n7_ n8_
      (try clear hb)
      (try clear hb2)
      (try clear hk)
      (try clear hi)
      refine hK.out _ _ ⟨(blk_cell BK1170.out 0).trans rfl, (blk_cell BK1170.out 1).trans rfl, (blk_cell BK1170.out 2).trans rfl, (blk_cell BK1170.out 3).trans rfl, (blk_cell BK1170.out 4).trans rfl, (blk_cell BK1144.out 0).trans rfl, (blk_cell BK1144.out 1).trans rfl, (blk_cell BK1144.out 2).trans rfl, (blk_cell BK1144.out 3).trans rfl, (blk_cell BK1144.out 4).trans rfl⟩ (fun hHeld => ?_)
      clear hK K
      refine norm_ (a' := ?_) ?_ ?_
      rotate_left
      ·show Act.put _ (some 38) _ = _
       simp only [Act.put, List.setIfInBounds_toArray, List.set_cons_zero, List.set_cons_succ, i64_w, i32_w]
       rfl
      refine pure_ (i := 4) (N := some 39) (v := ?_) (a' := ?_) #[true, true, true, true, true] rfl rfl (by kernel_rfl) (fun _ _ _ h => h) (Or.inl ⟨by rfl, ?_⟩) ?_ ?_
      rotate_left
      ·intro w'
       go_simp
       with_reducible rfl
      rotate_left
      ·simp only [Act.put, List.setIfInBounds_toArray, List.set_cons_zero, List.set_cons_succ, i64_w, i32_w]
       rfl
      refine done_ (by kernel_rfl) ?_
      try go_wp2
      go_ret
      exact ⟨by first | rfl | (simp [errW_none, errW_some] <;> rfl) | (simp [*, errW_none, errW_some] <;> rfl) | (simp [Int.tdiv_eq_ediv_of_nonneg, *]; done), by repeat (first | (with_reducible first | exact HB.out | apply below_alloc | apply pw_below_drewN | apply below_drew1 | refine below_set ?_ GE1144.out | refine below_set ?_ GE1170.out) | exact HB.out)⟩

def laws_FnExactBoundOf.Pure : Prop := ∀ (l0_0 : List (S171)) (l0_1 : List Int) (l0_2 : List Int) (a0_3 : Int) (a0_4 : Int), Opn.WfL W171 l0_0 → Opn.WfL (fun a_ => (Lit.int .i64 a_).wf = true) l0_1 → Opn.WfL (fun a_ => (Lit.int .i64 a_).wf = true) l0_2 → (Lit.int .i64 a0_3).wf = true → (Lit.int .i64 a0_4).wf = true → ∃ k, laws_FnExactBoundOf.f k l0_0 l0_1 l0_2 a0_3 a0_4 = some true
theorem laws_FnExactBoundOf.walk (P : laws_FnExactBoundOf.Pure) (A0_0 : Option Addr) (c0_0 : Nat) (l0_0 : List (S171)) (A0_1 : Option Addr) (c0_1 : Nat) (l0_1 : List Int) (A0_2 : Option Addr) (c0_2 : Nat) (l0_2 : List Int) (a0_3 : Int) (a0_4 : Int) (w : World) (hr0_0 : Kd.C k171 w A0_0 l0_0.length l0_0) (hc0_0 : l0_0.length ≤ c0_0) (hr0_1 : Kd.C (Kd.int .i64) w A0_1 l0_1.length l0_1) (hc0_1 : l0_1.length ≤ c0_1) (hr0_2 : Kd.C (Kd.int .i64) w A0_2 l0_2.length l0_2) (hc0_2 : l0_2.length ≤ c0_2) (w0_0 : Opn.WfL W171 l0_0) (w0_1 : Opn.WfL (fun a_ => (Lit.int .i64 a_).wf = true) l0_1) (w0_2 : Opn.WfL (fun a_ => (Lit.int .i64 a_).wf = true) l0_2) (w0_3 : (Lit.int .i64 a0_3).wf = true) (w0_4 : (Lit.int .i64 a0_4).wf = true) :
  Calls Try.prog 13 #[.agg #[.slice A0_0 l0_0.length c0_0, .slice A0_1 l0_1.length c0_1, .slice A0_2 l0_2.length c0_2, .int .i64 a0_3, .int .i64 a0_4]] w fun e w' => e = .returned (.bool true) ∧ Below w.heap.size w w' := by
 obtain ⟨k, h⟩ := P l0_0 l0_1 l0_2 a0_3 a0_4 w0_0 w0_1 w0_2 w0_3 w0_4
 refine (laws_FnExactBoundOf.calls k A0_0 c0_0 l0_0 A0_1 c0_1 l0_1 A0_2 c0_2 l0_2 a0_3 a0_4 true w hr0_0 hc0_0 hr0_1 hc0_1 hr0_2 hc0_2 h).mono ?_
 rintro e w' ⟨rfl, hd⟩
 exact ⟨rfl, hd⟩

end Go.Proofs.Ytajndapolblhmab.P
/- Plain facts on numbers and lists that every loop's lemma uses. -/
namespace Go.Proofs.Ytajndapolblhmab.P
open Go.RowKit Go.Proofs.Ytajndapolblhmab.P Go.Proofs.YtajndapolblhmabW.PrintWords Go.Proofs.YtajndapolblhmabW.PrintLast Go.Proofs.YtajndapolblhmabW.PrintMore
set_option linter.unusedVariables false
set_option linter.unusedSimpArgs false
theorem w64 (x : Int) (h1 : -9223372036854775808 ≤ x) (h2 : x ≤ 9223372036854775807) : wrap64 x = x := by unfold wrap64; omega
theorem w64s (i : Nat) (h : i < 9223372036854775807) : wrap64 ((i : Int) + 1) = ((i + 1 : Nat) : Int) := by unfold wrap64; omega
theorem rd_at (l : List Int) (i : Nat) (h : i < l.length) : rd l (i : Int) = l[i] := by
  unfold rd
  rw [Int.toNat_natCast, List.getD_eq_getElem?_getD, List.getElem?_eq_getElem h]
  rfl
theorem drop_at (l : List Int) (i : Nat) (h : i < l.length) : l.drop i = rd l (i : Int) :: l.drop (i + 1) := by
  rw [rd_at l i h, List.drop_eq_getElem_cons h]
theorem fill_step {α : Type} (l acc : List α) (i : Nat) (x : α) (hi : i < l.length) (hl : acc.length = l.length) (h : acc.take i = l.take i) (hx : l[i] = x) : (acc.set i x).take (i + 1) = l.take (i + 1) := by
  subst hx
  have hi2 : i < (acc.set i l[i]).length := by rw [List.length_set]; omega
  rw [List.take_succ_eq_append_getElem hi2, List.take_succ_eq_append_getElem hi, List.getElem_set_self, List.take_set_of_le (Nat.le_refl i), h]
theorem bind_some_ {α β : Type} (a : α) (f : α → Option β) : (some a).bind f = f a := rfl
theorem ite_tt (b r : Bool) : (if b = true then some r else some false) = some (b && r) := by cases b <;> rfl
theorem ite_ff (p : Prop) [Decidable p] (r : Bool) : (if p then some false else some r) = some (!decide p && r) := by by_cases h : p <;> simp [h]
theorem ite_pp (p : Prop) [Decidable p] (r : Bool) : (if p then some r else some false) = some (decide p && r) := by by_cases h : p <;> simp [h]
theorem not_ge_dec (a b : Int) : (!decide (a ≥ b)) = decide (a < b) := by by_cases h : a < b <;> simp [h] <;> omega

end Go.Proofs.Ytajndapolblhmab.P
/- A test at each of some numbers that follow one another. -/
namespace Go.Proofs.Ytajndapolblhmab.P
open Go.RowKit Go.Proofs.Ytajndapolblhmab.P Go.Proofs.YtajndapolblhmabW.PrintWords Go.Proofs.YtajndapolblhmabW.PrintLast Go.Proofs.YtajndapolblhmabW.PrintMore
set_option linter.unusedVariables false
set_option linter.unusedSimpArgs false
def upTo (p : Nat → Bool) : Nat → Nat → Bool
  | 0, _ => true
  | d + 1, i => p i && upTo p d (i + 1)
end Go.Proofs.Ytajndapolblhmab.P
/- Numbers in a range that rise. -/
namespace Go.Proofs.Ytajndapolblhmab.P
open Go.RowKit Go.Proofs.Ytajndapolblhmab.P Go.Proofs.YtajndapolblhmabW.PrintWords Go.Proofs.YtajndapolblhmabW.PrintLast Go.Proofs.YtajndapolblhmabW.PrintMore
set_option linter.unusedVariables false
set_option linter.unusedSimpArgs false
def riseOk (l : List Int) (lo hi : Int) (i : Nat) : Bool := decide (lo ≤ rd l i ∧ rd l i ≤ hi) && (decide (i = 0) || decide (rd l ((i - 1 : Nat) : Int) < rd l i))
def rises (l : List Int) (lo hi : Int) : Bool := upTo (riseOk l lo hi) l.length 0

end Go.Proofs.Ytajndapolblhmab.P
/- What is asked of a head. -/
namespace Go.Proofs.Ytajndapolblhmab.P
open Go.RowKit Go.Proofs.Ytajndapolblhmab.P Go.Proofs.YtajndapolblhmabW.PrintWords Go.Proofs.YtajndapolblhmabW.PrintLast Go.Proofs.YtajndapolblhmabW.PrintMore
set_option linter.unusedVariables false
set_option linter.unusedSimpArgs false
def cuOk (cs : List S79) (i : Nat) : Bool := decide (1 ≤ (rd_T79 cs i).f0 ∧ (rd_T79 cs i).f0 ≤ 100) && decide (1 ≤ (rd_T79 cs i).f1 ∧ (rd_T79 cs i).f1 ≤ 1000000)
def hdOk (cs : List S79) (fc st : List Int) (x y : Int) : Bool :=
  decide (1 ≤ (cs.length : Int) ∧ (cs.length : Int) ≤ 5) && (decide ((fc.length : Int) ≤ 60) && (decide ((st.length : Int) ≤ 8) && (rises st 0 (wrap64 ((fc.length : Int) - 1)) && (upTo (cuOk cs) cs.length 0 && (impl_areWithin.all 0 100 fc && (decide (0 ≤ x ∧ x ≤ 10000) && decide (0 ≤ y ∧ y ≤ 10000)))))))

end Go.Proofs.Ytajndapolblhmab.P
/- How far a cutter lasts, plainly. -/
namespace Go.Proofs.Ytajndapolblhmab.P
open Go.RowKit Go.Proofs.Ytajndapolblhmab.P Go.Proofs.YtajndapolblhmabW.PrintWords Go.Proofs.YtajndapolblhmabW.PrintLast Go.Proofs.YtajndapolblhmabW.PrintMore
set_option linter.unusedVariables false
set_option linter.unusedSimpArgs false
def reachGo (ax lim : Int) (fc : List Int) : Nat → Nat → Int → Nat
  | 0, i, _ => i
  | d + 1, i, s => if wrap64 (s + wrap64 (ax * rd fc (i : Int))) > lim then i else reachGo ax lim fc d (i + 1) (wrap64 (s + wrap64 (ax * rd fc (i : Int))))
def reachOf (cs : List S79) (fc : List Int) (a b : Nat) (s : Int) : Nat := reachGo (rd_T79 cs (a : Int)).f0 (rd_T79 cs (a : Int)).f1 fc (fc.length - b) b s
end Go.Proofs.Ytajndapolblhmab.P
/- The stints of a cutter, plainly. -/
namespace Go.Proofs.Ytajndapolblhmab.P
open Go.RowKit Go.Proofs.Ytajndapolblhmab.P Go.Proofs.YtajndapolblhmabW.PrintWords Go.Proofs.YtajndapolblhmabW.PrintLast Go.Proofs.YtajndapolblhmabW.PrintMore
set_option linter.unusedVariables false
set_option linter.unusedSimpArgs false
theorem reachGo_in (ax lim : Int) (fc : List Int) : ∀ (d i : Nat) (s : Int), i ≤ reachGo ax lim fc d i s ∧ reachGo ax lim fc d i s ≤ i + d
  | 0, i, s => by simp [reachGo]
  | d + 1, i, s => by
    have := reachGo_in ax lim fc d (i + 1) (wrap64 (s + wrap64 (ax * rd fc (i : Int))))
    simp only [reachGo]
    split <;> omega
theorem reachOf_in (cs : List S79) (fc : List Int) (a b : Nat) (s : Int) (hb : b ≤ fc.length) : b ≤ reachOf cs fc a b s ∧ reachOf cs fc a b s ≤ fc.length := by
  unfold reachOf
  have := reachGo_in (rd_T79 cs (a : Int)).f0 (rd_T79 cs (a : Int)).f1 fc (fc.length - b) b s
  omega
def nextOf (st : List Int) (b t : Int) : Nat → Nat → Int → Int
  | 0, _, c => c
  | d + 1, i, c => nextOf st b t d (i + 1) (if rd st (i : Int) > b then (if rd st (i : Int) ≤ t then rd st (i : Int) else c) else c)
theorem nextOf_in (st : List Int) (b t : Int) : ∀ (d i : Nat) (c : Int), nextOf st b t d i c = c ∨ (b < nextOf st b t d i c ∧ nextOf st b t d i c ≤ t)
  | 0, i, c => Or.inl rfl
  | d + 1, i, c => by
    simp only [nextOf]
    by_cases h1 : rd st (i : Int) > b
    · by_cases h2 : rd st (i : Int) ≤ t
      · rw [if_pos h1, if_pos h2]
        rcases nextOf_in st b t d (i + 1) (rd st (i : Int)) with h | h
        · right; rw [h]; omega
        · exact Or.inr h
      · rw [if_pos h1, if_neg h2]
        exact nextOf_in st b t d (i + 1) c
    · rw [if_neg h1]
      exact nextOf_in st b t d (i + 1) c
def stintsGo (cs : List S79) (fc st : List Int) (a : Nat) : Nat → Nat → List (List Int) → List (List Int) × Bool
  | 0, _, _ => ([], false)
  | d + 1, b, acc => if ((reachOf cs fc a b 0 : Nat) : Int) = (fc.length : Int) then (acc, true) else
      if nextOf st b (reachOf cs fc a b 0 : Nat) st.length 0 (-1) < 0 then ([], false) else
      stintsGo cs fc st a d (nextOf st b (reachOf cs fc a b 0 : Nat) st.length 0 (-1)).toNat (acc ++ [[(b : Int), ((reachOf cs fc a b 0 : Nat) : Int)]])
theorem stintsGo_len (cs : List S79) (fc st : List Int) (a : Nat) : ∀ (d b : Nat) (acc : List (List Int)), (stintsGo cs fc st a d b acc).1.length ≤ acc.length + d
  | 0, _, _ => by simp [stintsGo]
  | d + 1, b, acc => by
    simp only [stintsGo]
    split
    · simp
    · split
      · simp
      · have := stintsGo_len cs fc st a d (nextOf st b (reachOf cs fc a b 0 : Nat) st.length 0 (-1)).toNat (acc ++ [[(b : Int), ((reachOf cs fc a b 0 : Nat) : Int)]])
        simp only [List.length_append, List.length_cons, List.length_nil] at this
        omega
def stints (cs : List S79) (fc st : List Int) (a : Nat) : List (List Int) × Bool := stintsGo cs fc st a (fc.length + 1) 0 []
theorem stints_len (cs : List S79) (fc st : List Int) (a : Nat) : (stints cs fc st a).1.length ≤ fc.length + 1 := by
  have := stintsGo_len cs fc st a (fc.length + 1) 0 []
  simpa [stints] using this

end Go.Proofs.Ytajndapolblhmab.P
/- The bound on a head's cost, plainly. -/
namespace Go.Proofs.Ytajndapolblhmab.P
open Go.RowKit Go.Proofs.Ytajndapolblhmab.P Go.Proofs.YtajndapolblhmabW.PrintWords Go.Proofs.YtajndapolblhmabW.PrintLast Go.Proofs.YtajndapolblhmabW.PrintMore
set_option linter.unusedVariables false
set_option linter.unusedSimpArgs false
def bndGo (cs : List S79) (fc st : List Int) : Nat → Nat → Int → Int → Option (Int × Int)
  | 0, _, n, m => some (n, m)
  | d + 1, i, n, m => if (stints cs fc st i).2 = true then bndGo cs fc st d (i + 1) (n + ((stints cs fc st i).1.length : Int)) (if m < ((stints cs fc st i).1.length : Int) then ((stints cs fc st i).1.length : Int) else m) else none
theorem bndGo_in (cs : List S79) (fc st : List Int) (hf : fc.length ≤ 60) : ∀ (d i : Nat) (n m : Int) (p : Int × Int), 0 ≤ n → n ≤ 61 * i → bndGo cs fc st d i n m = some p → 0 ≤ p.1 ∧ p.1 ≤ 61 * (i + d)
  | 0, i, n, m, p, h1, h2, h => by
    simp only [bndGo, Option.some.injEq] at h
    subst h
    dsimp only
    omega
  | d + 1, i, n, m, p, h1, h2, h => by
    simp only [bndGo] at h
    have hl := stints_len cs fc st i
    split at h
    · have := bndGo_in cs fc st hf d (i + 1) _ _ p (by omega) (by omega) h
      omega
    · simp at h
def boundP (cs : List S79) (fc st : List Int) (x y : Int) : Int × Bool :=
  if hdOk cs fc st x y = true then (match bndGo cs fc st cs.length 0 0 0 with
    | some p => (wrap64 (y * p.1 + wrap64 (x * p.2)), true)
    | none => (0, false)) else (0, false)
theorem mul10k (y n : Int) (hy : 0 ≤ y ∧ y ≤ 10000) (hn : 0 ≤ n ∧ n ≤ 100000) : 0 ≤ y * n ∧ y * n ≤ 1000000000 := by
  constructor
  · exact Int.mul_nonneg hy.1 hn.1
  · have h1 : y * n ≤ 10000 * n := Int.mul_le_mul_of_nonneg_right hy.2 hn.1
    omega
theorem hdOk_in {cs : List S79} {fc st : List Int} {x y : Int} (h : hdOk cs fc st x y = true) : cs.length ≤ 5 ∧ fc.length ≤ 60 ∧ st.length ≤ 8 ∧ (0 ≤ x ∧ x ≤ 10000) ∧ (0 ≤ y ∧ y ≤ 10000) := by
  unfold hdOk at h
  simp only [Bool.and_eq_true, decide_eq_true_eq] at h
  obtain ⟨h1, h2, h3, _, _, _, h4, h5⟩ := h
  exact ⟨by omega, by omega, by omega, h4, h5⟩

end Go.Proofs.Ytajndapolblhmab.P
/- Numbers in a range, as the program asks it of a list. -/
namespace Go.Proofs.Ytajndapolblhmab.P
open Go.RowKit Go.Proofs.Ytajndapolblhmab.P Go.Proofs.YtajndapolblhmabW.PrintWords Go.Proofs.YtajndapolblhmabW.PrintLast Go.Proofs.YtajndapolblhmabW.PrintMore
set_option linter.unusedVariables false
set_option linter.unusedSimpArgs false
theorem areWithin2 (a b lo hi : Int) : impl_areWithin.all lo hi [a, b] = (decide (lo ≤ a ∧ a ≤ hi) && decide (lo ≤ b ∧ b ≤ hi)) := by
  simp [impl_areWithin.all]

end Go.Proofs.Ytajndapolblhmab.P
/- A number lies in a range, as the program asks it. -/
namespace Go.Proofs.Ytajndapolblhmab.P
open Go.RowKit Go.Proofs.Ytajndapolblhmab.P Go.Proofs.YtajndapolblhmabW.PrintWords Go.Proofs.YtajndapolblhmabW.PrintLast Go.Proofs.YtajndapolblhmabW.PrintMore
set_option linter.unusedVariables false
set_option linter.unusedSimpArgs false
theorem within_is (a b c : Int) : impl_within.f a b c = some (decide (b ≤ a ∧ a ≤ c)) := by
  unfold impl_within.f
  by_cases h : b ≤ a <;> simp [h]

end Go.Proofs.Ytajndapolblhmab.P
/- Numbers in a range that rise, as the program asks it. -/
namespace Go.Proofs.Ytajndapolblhmab.P
open Go.RowKit Go.Proofs.Ytajndapolblhmab.P Go.Proofs.YtajndapolblhmabW.PrintWords Go.Proofs.YtajndapolblhmabW.PrintLast Go.Proofs.YtajndapolblhmabW.PrintMore
set_option linter.unusedVariables false
set_option linter.unusedSimpArgs false
theorem implRises_loop (l : List Int) (n : Int) (hb : l.length ≤ 9223372036854775806) : ∀ (d k i : Nat), i + d = l.length → d < k → impl_isSet.l0 k l n l l.length i = some (upTo (riseOk l 0 (wrap64 (n - 1))) d i) := by
  intro d
  induction d with
  | zero =>
    intro k i hi' hk
    obtain ⟨k, rfl⟩ : ∃ m, k = m + 1 := ⟨k - 1, by omega⟩
    simp only [impl_isSet.l0]
    rw [if_neg (by omega)]
    rfl
  | succ d ih =>
    intro k i hi' hk
    obtain ⟨k, rfl⟩ : ∃ m, k = m + 1 := ⟨k - 1, by omega⟩
    have hz := ih k (i + 1) (by omega) (by omega)
    simp only [impl_isSet.l0, within_is, bind_some_, upTo, riseOk]
    rw [if_pos (by omega), if_pos (by omega), if_pos (by omega), w64s i (by omega), hz]
    by_cases h : i = 0
    · rw [if_neg (show ¬ (i : Int) > 0 by omega), ite_tt, decide_eq_true h, Bool.true_or, Bool.and_true]
    · have e : wrap64 ((i : Int) - 1) = ((i - 1 : Nat) : Int) := by rw [w64 _ (by omega) (by omega)]; omega
      rw [if_pos (show (i : Int) > 0 by omega), e, if_pos (show (0 : Int) ≤ ((i - 1 : Nat) : Int) by omega), if_pos (show ((i - 1 : Nat) : Int) < (l.length : Int) by omega), ite_ff, ite_tt, not_ge_dec, decide_eq_false h, Bool.false_or, Bool.and_assoc]
theorem implRises_is (k : Nat) (l : List Int) (n : Int) (hb : l.length ≤ 9223372036854775806) (hk : l.length < k) : impl_isSet.f k l n = some (rises l 0 (wrap64 (n - 1))) := by
  unfold impl_isSet.f rises
  exact implRises_loop l n hb l.length k 0 (by omega) hk

end Go.Proofs.Ytajndapolblhmab.P
/- What the program asks of a head. -/
namespace Go.Proofs.Ytajndapolblhmab.P
open Go.RowKit Go.Proofs.Ytajndapolblhmab.P Go.Proofs.YtajndapolblhmabW.PrintWords Go.Proofs.YtajndapolblhmabW.PrintLast Go.Proofs.YtajndapolblhmabW.PrintMore
set_option linter.unusedVariables false
set_option linter.unusedSimpArgs false
theorem implHead_l0 (cs : List S79) (fc st : List Int) (x y : Int) (hc : cs.length ≤ 1048576) (hb : fc.length ≤ 1048576) (hs : st.length ≤ 1048576) : ∀ (d k i : Nat), i + d = cs.length → d + st.length + 1 < k → impl_ValidHead.l0 k cs cs.length i cs fc st x y = some (upTo (cuOk cs) d i && (decide (1 ≤ (cs.length : Int) ∧ (cs.length : Int) ≤ 5) && (decide ((fc.length : Int) ≤ 60) && (impl_areWithin.all 0 100 fc && (decide ((st.length : Int) ≤ 8) && (rises st 0 (wrap64 ((fc.length : Int) - 1)) && (decide (0 ≤ x ∧ x ≤ 10000) && decide (0 ≤ y ∧ y ≤ 10000)))))))) := by
  intro d
  induction d with
  | zero =>
    intro k i hi' hk
    obtain ⟨k, rfl⟩ : ∃ m, k = m + 1 := ⟨k - 1, by omega⟩
    simp only [impl_ValidHead.l0, within_is, impl_areWithin.f, bind_some_, areWithin2]
    rw [if_neg (by omega), implRises_is k st _ (by omega) (by omega)]
    simp only [bind_some_, ite_tt, ite_pp, upTo, Bool.true_and, Bool.decide_eq_true]
  | succ d ih =>
    intro k i hi' hk
    obtain ⟨k, rfl⟩ : ∃ m, k = m + 1 := ⟨k - 1, by omega⟩
    have hz := ih k (i + 1) (by omega) (by omega)
    simp only [impl_ValidHead.l0, within_is, bind_some_]
    rw [if_pos (by omega), if_pos (by omega), if_pos (by omega), w64s i (by omega), hz, ite_tt, ite_tt]
    simp only [upTo, cuOk, Bool.and_assoc]
theorem implHead_is (k : Nat) (cs : List S79) (fc st : List Int) (x y : Int) (hc : cs.length ≤ 1048576) (hb : fc.length ≤ 1048576) (hs : st.length ≤ 1048576) (hk : cs.length + st.length + 3 < k) : impl_ValidHead.f k cs fc st x y = some (hdOk cs fc st x y) := by
  unfold impl_ValidHead.f
  have h0 := implHead_l0 cs fc st x y hc hb hs cs.length k 0 (by omega) (by omega)
  rw [show ((0 : Nat) : Int) = 0 by rfl] at h0
  rw [h0]
  unfold hdOk
  congr 1
  ac_rfl

end Go.Proofs.Ytajndapolblhmab.P
namespace Go.Proofs.Ytajndapolblhmab.P
open Go.RowKit Go.Proofs.YtajndapolblhmabW.PrintWords Go.Proofs.YtajndapolblhmabW.PrintLast Go.Proofs.YtajndapolblhmabW.PrintMore
attribute [local go_sem] max2_int min2_int max_two min_two max_three min_three max_four min_four   -- for this text's walks alone
set_option linter.unusedVariables false
set_option linter.unusedSimpArgs false

end Go.Proofs.Ytajndapolblhmab.P
/- How far a cutter lasts, as the program reckons it. -/
namespace Go.Proofs.Ytajndapolblhmab.P
open Go.RowKit Go.Proofs.Ytajndapolblhmab.P Go.Proofs.YtajndapolblhmabW.PrintWords Go.Proofs.YtajndapolblhmabW.PrintLast Go.Proofs.YtajndapolblhmabW.PrintMore
set_option linter.unusedVariables false
set_option linter.unusedSimpArgs false
theorem implReach_l0 (cs : List S79) (fc st : List Int) (x y ax lim : Int) (hb : fc.length ≤ 9223372036854775806) : ∀ (d k i : Nat) (s : Int), i + d = fc.length → d < k → impl_Head_reach.l0 k i s cs fc st x y ax lim = some ((reachGo ax lim fc d i s : Nat) : Int) := by
  intro d
  induction d with
  | zero =>
    intro k i s hi hk
    obtain ⟨k, rfl⟩ : ∃ m, k = m + 1 := ⟨k - 1, by omega⟩
    simp only [impl_Head_reach.l0, reachGo]
    rw [if_neg (by omega)]
  | succ d ih =>
    intro k i s hi hk
    obtain ⟨k, rfl⟩ : ∃ m, k = m + 1 := ⟨k - 1, by omega⟩
    simp only [impl_Head_reach.l0, reachGo]
    rw [if_pos (by omega), if_pos (by omega), w64s i (by omega), ih k (i + 1) _ (by omega) (by omega)]
    split <;> rfl
theorem implReach_is (k : Nat) (cs : List S79) (fc st : List Int) (x y : Int) (a b : Nat) (s : Int) (ha : a < cs.length) (hb : fc.length ≤ 9223372036854775806) (hbl : b ≤ fc.length) (hk : fc.length < k) : impl_Head_reach.f k cs fc st x y a b s = some ((reachOf cs fc a b s : Nat) : Int) := by
  unfold impl_Head_reach.f reachOf
  rw [if_pos (by omega), if_pos (by omega)]
  exact implReach_l0 cs fc st x y _ _ hb (fc.length - b) k b s (by omega) (by omega)
end Go.Proofs.Ytajndapolblhmab.P
/- The stints of a cutter, as the program reckons them. -/
namespace Go.Proofs.Ytajndapolblhmab.P
open Go.RowKit Go.Proofs.Ytajndapolblhmab.P Go.Proofs.YtajndapolblhmabW.PrintWords Go.Proofs.YtajndapolblhmabW.PrintLast Go.Proofs.YtajndapolblhmabW.PrintMore
set_option linter.unusedVariables false
set_option linter.unusedSimpArgs false
theorem implStints_l1 (cs : List S79) (fc st : List Int) (x y a b t : Int) (acc : List (List Int)) (hs : st.length ≤ 1048576) : ∀ (d k i : Nat) (c : Int), i + d = st.length → impl_Head_needs.l1 (k + d + 1) a acc b t c st st.length i cs fc st x y = (if nextOf st b t d i c < 0 then some ([], false) else (if acc.length < 5864062014805 then impl_Head_needs.l0 k a (acc ++ [[b, t]]) (nextOf st b t d i c) cs fc st x y else none)) := by
  intro d
  induction d with
  | zero =>
    intro k i c hi
    simp only [impl_Head_needs.l1, nextOf]
    rw [if_neg (by omega)]
    rfl
  | succ d ih =>
    intro k i c hi
    have hz := fun c => ih k (i + 1) c (by omega)
    obtain ⟨q, hq⟩ : ∃ q, q = k + d + 1 := ⟨_, rfl⟩
    rw [← hq] at hz
    have e : nextOf st b t (d + 1) i c = nextOf st b t d (i + 1) (if rd st (i : Int) > b then (if rd st (i : Int) ≤ t then rd st (i : Int) else c) else c) := rfl
    rw [show k + (d + 1) + 1 = q + 1 by omega, e]
    simp only [impl_Head_needs.l1]
    rw [if_pos (by omega), if_pos (by omega), if_pos (by omega), w64s i (by omega), hz, hz]
    by_cases h1 : rd st (i : Int) > b
    · by_cases h2 : rd st (i : Int) ≤ t
      · rw [if_pos h1, if_pos h2, if_pos h1, if_pos h2]
      · rw [if_pos h1, if_neg h2, if_pos h1, if_neg h2]
    · rw [if_neg h1, if_neg h1]
theorem implStints_l0 (cs : List S79) (fc st : List Int) (x y : Int) (hb : fc.length ≤ 1048576) (hs : st.length ≤ 1048576) (a : Nat) (ha : a < cs.length) : ∀ (d k b : Nat) (acc : List (List Int)), b ≤ fc.length → fc.length + 1 ≤ b + d → acc.length ≤ b → fc.length + st.length + 5 + d * (st.length + 2) ≤ k → impl_Head_needs.l0 k a acc b cs fc st x y = some (stintsGo cs fc st a d b acc) := by
  intro d
  induction d with
  | zero => intro k b acc h1 h2 h3 h4; omega
  | succ d ih =>
    intro k b acc h1 h2 h3 h4
    have h5 : (d + 1) * (st.length + 2) = d * (st.length + 2) + st.length + 2 := by rw [Nat.succ_mul]; omega
    obtain ⟨k, rfl⟩ : ∃ m, k = m + st.length + 1 + 1 := ⟨k - st.length - 2, by omega⟩
    have hr := reachOf_in cs fc a b 0 h1
    have hl1 := implStints_l1 cs fc st x y a b ((reachOf cs fc a b 0 : Nat) : Int) acc hs st.length k 0 (-1) (by omega)
    simp only [impl_Head_needs.l0, stintsGo]
    rw [implReach_is _ cs fc st x y a b 0 ha (by omega) h1 (by omega), bind_some_]
    by_cases hc : ((reachOf cs fc a b 0 : Nat) : Int) = (fc.length : Int)
    · rw [if_pos hc, if_pos hc]
    · rw [if_neg hc, if_neg hc]
      refine hl1.trans ?_
      rcases nextOf_in st b ((reachOf cs fc a b 0 : Nat) : Int) st.length 0 (-1) with hn | ⟨hn1, hn2⟩
      · rw [if_pos (by omega), if_pos (by omega)]
      · rw [if_neg (by omega), if_pos (by omega), if_neg (by omega)]
        obtain ⟨n, hn⟩ : ∃ n : Nat, nextOf st b ((reachOf cs fc a b 0 : Nat) : Int) st.length 0 (-1) = n := ⟨(nextOf st b ((reachOf cs fc a b 0 : Nat) : Int) st.length 0 (-1)).toNat, by omega⟩
        rw [hn] at hn1 hn2 ⊢
        rw [Int.toNat_natCast]
        exact ih k n _ (by omega) (by omega) (by simp; omega) (by omega)
theorem implStints_is (k : Nat) (cs : List S79) (fc st : List Int) (x y : Int) (hb : fc.length ≤ 1048576) (hs : st.length ≤ 1048576) (a : Nat) (ha : a < cs.length) (hk : fc.length + st.length + 5 + (fc.length + 1) * (st.length + 2) ≤ k) : impl_Head_needs.f k cs fc st x y a = some (stints cs fc st a) := by
  unfold impl_Head_needs.f stints
  exact implStints_l0 cs fc st x y hb hs a ha (fc.length + 1) k 0 [] (by omega) (by omega) (by simp) (by omega)

end Go.Proofs.Ytajndapolblhmab.P
/- The bound on a head's cost, as the program reckons it. -/
namespace Go.Proofs.Ytajndapolblhmab.P
open Go.RowKit Go.Proofs.Ytajndapolblhmab.P Go.Proofs.YtajndapolblhmabW.PrintWords Go.Proofs.YtajndapolblhmabW.PrintLast Go.Proofs.YtajndapolblhmabW.PrintMore
set_option linter.unusedVariables false
set_option linter.unusedSimpArgs false
theorem implBound_l0 (cs : List S79) (fc st : List Int) (x y : Int) (hc : cs.length ≤ 5) (hf : fc.length ≤ 60) (hs : st.length ≤ 8) : ∀ (d k i : Nat) (n m : Int), i + d = cs.length → 900 + d ≤ k → 0 ≤ n → n ≤ 61 * i → impl_BoundOf.l0 k n m cs.length i cs fc st x y = some (match bndGo cs fc st d i n m with
    | some p => (wrap64 (wrap64 (y * p.1) + wrap64 (x * p.2)), true)
    | none => (0, false)) := by
  intro d
  induction d with
  | zero =>
    intro k i n m hi hk h1 h2
    obtain ⟨k, rfl⟩ : ∃ m, k = m + 1 := ⟨k - 1, by omega⟩
    simp only [impl_BoundOf.l0, bndGo]
    rw [if_neg (by omega)]
  | succ d ih =>
    intro k i n m hi hk h1 h2
    obtain ⟨k, rfl⟩ : ∃ m, k = m + 1 := ⟨k - 1, by omega⟩
    have hfu : (fc.length + 1) * (st.length + 2) ≤ 61 * 10 := Nat.mul_le_mul (by omega) (by omega)
    have hl := stints_len cs fc st i
    simp only [impl_BoundOf.l0, bndGo]
    rw [if_pos (by omega), implStints_is k cs fc st x y (by omega) (by omega) i (by omega) (by omega), bind_some_]
    by_cases h : (stints cs fc st i).2 = true
    · rw [if_pos h, if_pos h, w64 (n + ((stints cs fc st i).1.length : Int)) (by omega) (by omega), w64s i (by omega)]
      exact ih k (i + 1) _ _ (by omega) (by omega) (by omega) (by omega)
    · rw [if_neg h, if_neg h]
theorem implBoundOf_is (k : Nat) (cs : List S79) (fc st : List Int) (x y : Int) (hc : cs.length ≤ 1048576) (hb : fc.length ≤ 1048576) (hs : st.length ≤ 1048576) (hk : cs.length + fc.length + st.length + 1000 < k) : impl_BoundOf.f k cs fc st x y = some (boundP cs fc st x y) := by
  unfold impl_BoundOf.f boundP
  rw [implHead_is k cs fc st x y hc hb hs (by omega), bind_some_]
  by_cases h : hdOk cs fc st x y = true
  · obtain ⟨h1, h2, h3, h4, h5⟩ := hdOk_in h
    rw [if_pos h, if_pos h]
    have e := implBound_l0 cs fc st x y h1 h2 h3 cs.length k 0 0 0 (by omega) (by omega) (by omega) (by omega)
    refine e.trans ?_
    cases hp : bndGo cs fc st cs.length 0 0 0 with
    | none => rfl
    | some p =>
      have hi := bndGo_in cs fc st h2 cs.length 0 0 0 p (by omega) (by omega) hp
      have b1 := mul10k y p.1 h5 (by omega)
      dsimp only
      rw [w64 (y * p.1) (by omega) (by omega)]
  · rw [if_neg h, if_neg h]

end Go.Proofs.Ytajndapolblhmab.P
/- A list of structs is equal to itself. -/
namespace Go.Proofs.Ytajndapolblhmab.P
open Go.RowKit Go.Proofs.Ytajndapolblhmab.P Go.Proofs.YtajndapolblhmabW.PrintWords Go.Proofs.YtajndapolblhmabW.PrintLast Go.Proofs.YtajndapolblhmabW.PrintMore
set_option linter.unusedVariables false
set_option linter.unusedSimpArgs false
theorem eqCutterS_loop (a : List S79) (hb : a.length ≤ 9223372036854775807) : ∀ (d k i : Nat), i + d = a.length → d < k → laws_eqCutterS.l0 k a a i = some true := by
  intro d
  induction d with
  | zero =>
    intro k i hi hk
    obtain ⟨k, rfl⟩ : ∃ m, k = m + 1 := ⟨k - 1, by omega⟩
    simp only [laws_eqCutterS.l0]
    rw [if_neg (by omega)]
  | succ d ih =>
    intro k i hi hk
    obtain ⟨k, rfl⟩ : ∃ m, k = m + 1 := ⟨k - 1, by omega⟩
    simp only [laws_eqCutterS.l0, laws_eqCutter.f, if_true, bind_some_]
    rw [if_pos (by omega), if_pos (by omega), if_pos (by omega), w64s i (by omega)]
    exact ih k (i + 1) (by omega) (by omega)
theorem eqCutterS_refl (k : Nat) (a : List S79) (hb : a.length ≤ 9223372036854775807) (hk : a.length < k) : laws_eqCutterS.f k a a = some true := by
  unfold laws_eqCutterS.f
  rw [if_pos rfl]
  exact eqCutterS_loop a hb a.length k 0 (by omega) hk

end Go.Proofs.Ytajndapolblhmab.P
/- Two lists of numbers are compared. -/
namespace Go.Proofs.Ytajndapolblhmab.P
open Go.RowKit Go.Proofs.Ytajndapolblhmab.P Go.Proofs.YtajndapolblhmabW.PrintWords Go.Proofs.YtajndapolblhmabW.PrintLast Go.Proofs.YtajndapolblhmabW.PrintMore
set_option linter.unusedVariables false
set_option linter.unusedSimpArgs false
theorem eqInt_loop (a b : List Int) (hl : a.length = b.length) (hb : a.length ≤ 9223372036854775807) : ∀ (d k i : Nat), i + d = a.length → d < k → laws_eqInt64S.l0 k a b i = some (decide (a.drop i = b.drop i)) := by
  intro d
  induction d with
  | zero =>
    intro k i hi hk
    obtain ⟨k, rfl⟩ : ∃ m, k = m + 1 := ⟨k - 1, by omega⟩
    simp only [laws_eqInt64S.l0]
    rw [if_neg (by omega), List.drop_of_length_le (by omega), List.drop_of_length_le (by omega)]
    simp
  | succ d ih =>
    intro k i hi hk
    obtain ⟨k, rfl⟩ : ∃ m, k = m + 1 := ⟨k - 1, by omega⟩
    simp only [laws_eqInt64S.l0]
    rw [if_pos (by omega), if_pos (by omega), if_pos (by omega), w64s i (by omega), ih k (i + 1) (by omega) (by omega), drop_at a i (by omega), drop_at b i (by omega)]
    by_cases h : rd a i = rd b i
    · rw [if_pos h]; simp [h]
    · rw [if_neg h]; simp [h]
theorem eqInt_is (k : Nat) (a b : List Int) (hb : a.length ≤ 9223372036854775807) (hk : a.length < k) : laws_eqInt64S.f k a b = some (decide (a = b)) := by
  unfold laws_eqInt64S.f
  by_cases h : a.length = b.length
  · rw [if_pos (by omega)]
    have := eqInt_loop a b h hb a.length k 0 (by omega) hk
    simpa using this
  · rw [if_neg (by omega)]
    have : a ≠ b := fun e => h (by rw [e])
    simp [this]

end Go.Proofs.Ytajndapolblhmab.P
/- A list of the law's own structs is copied into the program's. -/
namespace Go.Proofs.Ytajndapolblhmab.P
open Go.RowKit Go.Proofs.Ytajndapolblhmab.P Go.Proofs.YtajndapolblhmabW.PrintWords Go.Proofs.YtajndapolblhmabW.PrintLast Go.Proofs.YtajndapolblhmabW.PrintMore
set_option linter.unusedVariables false
set_option linter.unusedSimpArgs false
def toCutter (x : S171) : S79 := ⟨x.f0, x.f1⟩
theorem rdLCutter_at (l : List S171) (i : Nat) (h : i < l.length) : rd_T171 l (i : Int) = l[i] := by
  unfold rd_T171
  rw [Int.toNat_natCast, List.getD_eq_getElem?_getD, List.getElem?_eq_getElem h]
  rfl
theorem toCutterS_loop (l : List S171) (hb : l.length ≤ 9223372036854775807) : ∀ (d k i : Nat) (acc : List S79), i + d = l.length → d < k → acc.length = l.length → acc.take i = (l.map toCutter).take i → laws_toCutterS.l0 k l acc i = some (l.map toCutter) := by
  intro d
  induction d with
  | zero =>
    intro k i acc hi hk ha ht
    obtain ⟨k, rfl⟩ : ∃ m, k = m + 1 := ⟨k - 1, by omega⟩
    simp only [laws_toCutterS.l0]
    rw [if_neg (by omega)]
    rw [List.take_of_length_le (by omega), List.take_of_length_le (by rw [List.length_map]; omega)] at ht
    rw [ht]
  | succ d ih =>
    intro k i acc hi hk ha ht
    obtain ⟨k, rfl⟩ : ∃ m, k = m + 1 := ⟨k - 1, by omega⟩
    simp only [laws_toCutterS.l0, laws_toCutter.f, bind_some_]
    rw [if_pos (by omega), if_pos (by omega), if_pos (by omega), w64s i (by omega), Int.toNat_natCast]
    refine ih k (i + 1) _ (by omega) (by omega) (by rw [List.length_set]; exact ha) (fill_step (l.map toCutter) acc i _ (by rw [List.length_map]; omega) (by rw [List.length_map]; exact ha) ht ?_)
    rw [List.getElem_map, rdLCutter_at l i (by omega)]
    rfl
theorem toCutterS_is (k : Nat) (l : List S171) (hb : l.length ≤ 1048576) (hk : l.length < k) : laws_toCutterS.f k l = some (l.map toCutter) := by
  unfold laws_toCutterS.f
  rw [if_pos (by omega), if_pos (by omega)]
  exact toCutterS_loop l (by omega) l.length k 0 _ (by omega) hk (by simp) (by simp)

end Go.Proofs.Ytajndapolblhmab.P
/- A list of numbers is copied. -/
namespace Go.Proofs.Ytajndapolblhmab.P
open Go.RowKit Go.Proofs.Ytajndapolblhmab.P Go.Proofs.YtajndapolblhmabW.PrintWords Go.Proofs.YtajndapolblhmabW.PrintLast Go.Proofs.YtajndapolblhmabW.PrintMore
set_option linter.unusedVariables false
set_option linter.unusedSimpArgs false
theorem toInt_loop (l : List Int) (hb : l.length ≤ 9223372036854775807) : ∀ (d k i : Nat) (acc : List Int), i + d = l.length → d < k → acc.length = l.length → acc.take i = l.take i → laws_toInt64S.l0 k l acc i = some l := by
  intro d
  induction d with
  | zero =>
    intro k i acc hi hk ha ht
    obtain ⟨k, rfl⟩ : ∃ m, k = m + 1 := ⟨k - 1, by omega⟩
    simp only [laws_toInt64S.l0]
    rw [if_neg (by omega)]
    rw [List.take_of_length_le (by omega), List.take_of_length_le (by omega)] at ht
    rw [ht]
  | succ d ih =>
    intro k i acc hi hk ha ht
    obtain ⟨k, rfl⟩ : ∃ m, k = m + 1 := ⟨k - 1, by omega⟩
    simp only [laws_toInt64S.l0]
    rw [if_pos (by omega), if_pos (by omega), if_pos (by omega), w64s i (by omega), Int.toNat_natCast]
    exact ih k (i + 1) _ (by omega) (by omega) (by rw [List.length_set]; exact ha) (fill_step l acc i _ (by omega) ha ht (rd_at l i (by omega)).symm)
theorem toInt_is (k : Nat) (l : List Int) (hb : l.length ≤ 35184372088832) (hk : l.length < k) : laws_toInt64S.f k l = some l := by
  unfold laws_toInt64S.f
  rw [if_pos (by omega), if_pos (by omega)]
  exact toInt_loop l (by omega) l.length k 0 _ (by omega) hk (by simp) (by simp)

end Go.Proofs.Ytajndapolblhmab.P
/- A head is copied, measured, and equal to itself. -/
namespace Go.Proofs.Ytajndapolblhmab.P
open Go.RowKit Go.Proofs.Ytajndapolblhmab.P Go.Proofs.YtajndapolblhmabW.PrintWords Go.Proofs.YtajndapolblhmabW.PrintLast Go.Proofs.YtajndapolblhmabW.PrintMore
set_option linter.unusedVariables false
set_option linter.unusedSimpArgs false
theorem toHead_is (k : Nat) (cs : List S171) (fc st : List Int) (x y : Int) (hc : cs.length ≤ 1048576) (hb : fc.length ≤ 1048576) (hs : st.length ≤ 1048576) (hk : cs.length + fc.length + st.length < k) : laws_toHead.f k cs fc st x y = some (cs.map toCutter, fc, st, x, y) := by
  unfold laws_toHead.f
  rw [toCutterS_is k cs hc (by omega), bind_some_, toInt_is k fc (by omega) (by omega), bind_some_, toInt_is k st (by omega) (by omega), bind_some_]
theorem eqHead_refl (k : Nat) (cs : List S79) (fc st : List Int) (x y : Int) (hc : cs.length ≤ 1048576) (hb : fc.length ≤ 1048576) (hs : st.length ≤ 1048576) (hk : cs.length + fc.length + st.length < k) : laws_eqHead.f k cs fc st x y cs fc st x y = some true := by
  unfold laws_eqHead.f
  rw [eqCutterS_refl k cs (by omega) (by omega), bind_some_, if_pos rfl, eqInt_is k fc fc (by omega) (by omega), bind_some_, if_pos (decide_eq_true rfl), eqInt_is k st st (by omega) (by omega), bind_some_, if_pos (decide_eq_true rfl), if_pos rfl, if_pos rfl]
theorem szHead_is2 (cs : List S171) (fc st : List Int) (x y : Int) (hc : cs.length ≤ 9223372036854775807) (hb : fc.length ≤ 9223372036854775807) (hs : st.length ≤ 9223372036854775807) : ∃ r, laws_szHead.f cs fc st x y 1048576 = some r ∧ r ≤ 1048576 ∧ (r < 0 ∨ (cs.length ≤ 1048576 ∧ fc.length ≤ 1048576 ∧ st.length ≤ 1048576)) := by
  unfold laws_szHead.f laws_szCutterS.f laws_szInt64S.f
  rw [w64 (1048576 - (cs.length : Int)) (by omega) (by omega)]
  by_cases h1 : 1048576 - (cs.length : Int) < 0
  · rw [if_pos h1, bind_some_, if_pos (by omega)]
    exact ⟨_, rfl, by omega, Or.inl (by omega)⟩
  · rw [if_neg h1, bind_some_, if_neg h1, w64 (1048576 - (cs.length : Int) - (fc.length : Int)) (by omega) (by omega)]
    by_cases h2 : 1048576 - (cs.length : Int) - (fc.length : Int) < 0
    · rw [if_pos h2, bind_some_, if_pos (by omega)]
      exact ⟨_, rfl, by omega, Or.inl (by omega)⟩
    · rw [if_neg h2, bind_some_, if_neg h2, w64 (1048576 - (cs.length : Int) - (fc.length : Int) - (st.length : Int)) (by omega) (by omega)]
      by_cases h3 : 1048576 - (cs.length : Int) - (fc.length : Int) - (st.length : Int) < 0
      · rw [if_pos h3, bind_some_, if_pos (by omega)]
        exact ⟨_, rfl, by omega, Or.inl (by omega)⟩
      · rw [if_neg h3, bind_some_, if_neg h3]
        exact ⟨_, rfl, by omega, Or.inr (by omega)⟩
theorem szHead_is (cs : List S171) (fc st : List Int) (x y : Int) (hc : cs.length ≤ 9223372036854775807) (hb : fc.length ≤ 9223372036854775807) (hs : st.length ≤ 9223372036854775807) : ∃ r, laws_szHead.f cs fc st x y 1048576 = some r ∧ (r < 0 ∨ (cs.length ≤ 1048576 ∧ fc.length ≤ 1048576 ∧ st.length ≤ 1048576)) := by
  obtain ⟨r, h1, _, h2⟩ := szHead_is2 cs fc st x y hc hb hs
  exact ⟨r, h1, h2⟩

end Go.Proofs.Ytajndapolblhmab.P
/- A number lies in a range, as the reference asks it. -/
namespace Go.Proofs.Ytajndapolblhmab.P
open Go.RowKit Go.Proofs.Ytajndapolblhmab.P Go.Proofs.YtajndapolblhmabW.PrintWords Go.Proofs.YtajndapolblhmabW.PrintLast Go.Proofs.YtajndapolblhmabW.PrintMore
set_option linter.unusedVariables false
set_option linter.unusedSimpArgs false
theorem in_is (a b c : Int) : spec_l00In.f a b c = some (decide (b ≤ a ∧ a ≤ c)) := by
  unfold spec_l00In.f
  by_cases h : b ≤ a <;> simp [h]

end Go.Proofs.Ytajndapolblhmab.P
/- Numbers in a range that rise, as the reference asks it. -/
namespace Go.Proofs.Ytajndapolblhmab.P
open Go.RowKit Go.Proofs.Ytajndapolblhmab.P Go.Proofs.YtajndapolblhmabW.PrintWords Go.Proofs.YtajndapolblhmabW.PrintLast Go.Proofs.YtajndapolblhmabW.PrintMore
set_option linter.unusedVariables false
set_option linter.unusedSimpArgs false
theorem specRises_loop (l : List Int) (lo hi : Int) (hb : l.length ≤ 9223372036854775806) : ∀ (d k i : Nat), i + d = l.length → d < k → spec_l00Rises.l0 k l lo hi i = some (upTo (riseOk l lo hi) d i) := by
  intro d
  induction d with
  | zero =>
    intro k i hi' hk
    obtain ⟨k, rfl⟩ : ∃ m, k = m + 1 := ⟨k - 1, by omega⟩
    simp only [spec_l00Rises.l0]
    rw [if_neg (by omega)]
    rfl
  | succ d ih =>
    intro k i hi' hk
    obtain ⟨k, rfl⟩ : ∃ m, k = m + 1 := ⟨k - 1, by omega⟩
    have hz := ih k (i + 1) (by omega) (by omega)
    simp only [spec_l00Rises.l0, in_is, bind_some_, upTo, riseOk]
    rw [if_pos (by omega), if_pos (by omega), w64s i (by omega), hz]
    by_cases h : i = 0
    · rw [if_neg (show ¬ (i : Int) > 0 by omega), ite_tt, decide_eq_true h, Bool.true_or, Bool.and_true]
    · have e : wrap64 ((i : Int) - 1) = ((i - 1 : Nat) : Int) := by rw [w64 _ (by omega) (by omega)]; omega
      rw [if_pos (show (i : Int) > 0 by omega), e, if_pos (show (0 : Int) ≤ ((i - 1 : Nat) : Int) by omega), if_pos (show ((i - 1 : Nat) : Int) < (l.length : Int) by omega), ite_ff, ite_tt, not_ge_dec, decide_eq_false h, Bool.false_or, Bool.and_assoc]
theorem specRises_is (k : Nat) (l : List Int) (lo hi : Int) (hb : l.length ≤ 9223372036854775806) (hk : l.length < k) : spec_l00Rises.f k l lo hi = some (rises l lo hi) := by
  unfold spec_l00Rises.f rises
  exact specRises_loop l lo hi hb l.length k 0 (by omega) hk

end Go.Proofs.Ytajndapolblhmab.P
/- What the reference asks of a head. -/
namespace Go.Proofs.Ytajndapolblhmab.P
open Go.RowKit Go.Proofs.Ytajndapolblhmab.P Go.Proofs.YtajndapolblhmabW.PrintWords Go.Proofs.YtajndapolblhmabW.PrintLast Go.Proofs.YtajndapolblhmabW.PrintMore
set_option linter.unusedVariables false
set_option linter.unusedSimpArgs false
theorem specHead_l1 (cs : List S79) (fc st : List Int) (x y : Int) (hb : fc.length ≤ 9223372036854775806) : ∀ (d k i : Nat), i + d = fc.length → d < k → spec_l08Is.l1 k i cs fc st x y = some (impl_areWithin.all 0 100 (fc.drop i) && (decide (0 ≤ x ∧ x ≤ 10000) && decide (0 ≤ y ∧ y ≤ 10000))) := by
  intro d
  induction d with
  | zero =>
    intro k i hi' hk
    obtain ⟨k, rfl⟩ : ∃ m, k = m + 1 := ⟨k - 1, by omega⟩
    simp only [spec_l08Is.l1, in_is, bind_some_]
    rw [if_neg (by omega), List.drop_of_length_le (by omega), ite_tt]
    rfl
  | succ d ih =>
    intro k i hi' hk
    obtain ⟨k, rfl⟩ : ∃ m, k = m + 1 := ⟨k - 1, by omega⟩
    have hz := ih k (i + 1) (by omega) (by omega)
    rw [drop_at fc i (by omega)]
    simp only [spec_l08Is.l1, in_is, bind_some_]
    rw [if_pos (by omega), if_pos (by omega), w64s i (by omega), hz, ite_tt]
    simp only [impl_areWithin.all, List.all_cons, Bool.and_assoc]
theorem specHead_l0 (cs : List S79) (fc st : List Int) (x y : Int) (hc : cs.length ≤ 9223372036854775806) (hb : fc.length ≤ 9223372036854775806) : ∀ (d k i : Nat), i + d = cs.length → d + fc.length + 1 < k → spec_l08Is.l0 k i cs fc st x y = some (upTo (cuOk cs) d i && (impl_areWithin.all 0 100 fc && (decide (0 ≤ x ∧ x ≤ 10000) && decide (0 ≤ y ∧ y ≤ 10000)))) := by
  intro d
  induction d with
  | zero =>
    intro k i hi' hk
    obtain ⟨k, rfl⟩ : ∃ m, k = m + 1 := ⟨k - 1, by omega⟩
    have h1 := specHead_l1 cs fc st x y hb fc.length k 0 (by omega) (by omega)
    rw [List.drop_zero] at h1
    simp only [spec_l08Is.l0]
    rw [if_neg (by omega)]
    exact h1
  | succ d ih =>
    intro k i hi' hk
    obtain ⟨k, rfl⟩ : ∃ m, k = m + 1 := ⟨k - 1, by omega⟩
    have hz := ih k (i + 1) (by omega) (by omega)
    simp only [spec_l08Is.l0, in_is, bind_some_]
    rw [if_pos (by omega), if_pos (by omega), w64s i (by omega), hz, ite_tt, ite_tt]
    simp only [upTo, cuOk, Bool.and_assoc]
theorem specIs_is (k : Nat) (cs : List S79) (fc st : List Int) (x y : Int) (hc : cs.length ≤ 1048576) (hb : fc.length ≤ 1048576) (hs : st.length ≤ 1048576) (hk : cs.length + fc.length + st.length + 3 < k) : spec_l08Is.f k cs fc st x y = some (hdOk cs fc st x y) := by
  obtain ⟨k, rfl⟩ : ∃ m, k = m + 1 := ⟨k - 1, by omega⟩
  have h0 := specHead_l0 cs fc st x y (by omega) (by omega) cs.length k 0 (by omega) (by omega)
  rw [show ((0 : Nat) : Int) = 0 by rfl] at h0
  unfold spec_l08Is.f hdOk
  rw [in_is, bind_some_, specRises_is (k + 1) st _ _ (by omega) (by omega), bind_some_]
  simp only [spec_l08Is.j0, h0, if_true]
  generalize upTo (cuOk cs) cs.length 0 = b1
  generalize impl_areWithin.all 0 100 fc = b2
  generalize rises st 0 (wrap64 ((fc.length : Int) - 1)) = b3
  by_cases h1 : (1 ≤ (cs.length : Int) ∧ (cs.length : Int) ≤ 5)
  · by_cases h2 : (fc.length : Int) > 60
    · rw [if_pos (decide_eq_true h1), if_pos h2, decide_eq_false (show ¬ (fc.length : Int) ≤ 60 by omega)]
      simp
    · rw [if_pos (decide_eq_true h1), if_neg h2, decide_eq_true (show (fc.length : Int) ≤ 60 by omega), decide_eq_true h1]
      by_cases h3 : (st.length : Int) > 8
      · rw [if_pos h3, decide_eq_false (show ¬ (st.length : Int) ≤ 8 by omega)]
        simp
      · rw [if_neg h3, decide_eq_true (show (st.length : Int) ≤ 8 by omega)]
        cases b3 <;> simp
  · rw [if_neg (by simpa using h1), decide_eq_false h1]
    simp
end Go.Proofs.Ytajndapolblhmab.P
/- The greater one of two numbers, as the reference tells it. -/
namespace Go.Proofs.Ytajndapolblhmab.P
open Go.RowKit Go.Proofs.Ytajndapolblhmab.P Go.Proofs.YtajndapolblhmabW.PrintWords Go.Proofs.YtajndapolblhmabW.PrintLast Go.Proofs.YtajndapolblhmabW.PrintMore
set_option linter.unusedVariables false
set_option linter.unusedSimpArgs false
theorem l00Max_is (a b : Int) : spec_l00Max.f a b = some (if a > b then a else b) := by
  unfold spec_l00Max.f
  by_cases h : a > b <;> simp [h]

end Go.Proofs.Ytajndapolblhmab.P
/- How far a cutter lasts, as the reference reckons it. -/
namespace Go.Proofs.Ytajndapolblhmab.P
open Go.RowKit Go.Proofs.Ytajndapolblhmab.P Go.Proofs.YtajndapolblhmabW.PrintWords Go.Proofs.YtajndapolblhmabW.PrintLast Go.Proofs.YtajndapolblhmabW.PrintMore
set_option linter.unusedVariables false
set_option linter.unusedSimpArgs false
theorem specReach_l0 (cs : List S79) (fc st : List Int) (x y : Int) (a : Nat) (ha : a < cs.length) (hb : fc.length ≤ 9223372036854775806) (b : Int) : ∀ (d k i : Nat) (s : Int), i + d = fc.length → d < k → spec_l08Range.l0 k a b s i cs fc st x y = some (wrap64 ((reachGo (rd_T79 cs (a : Int)).f0 (rd_T79 cs (a : Int)).f1 fc d i s : Nat) - b)) := by
  intro d
  induction d with
  | zero =>
    intro k i s hi hk
    obtain ⟨k, rfl⟩ : ∃ m, k = m + 1 := ⟨k - 1, by omega⟩
    simp only [spec_l08Range.l0, reachGo]
    rw [if_neg (by omega)]
  | succ d ih =>
    intro k i s hi hk
    obtain ⟨k, rfl⟩ : ∃ m, k = m + 1 := ⟨k - 1, by omega⟩
    simp only [spec_l08Range.l0, reachGo]
    rw [if_pos (by omega), if_pos (by omega), if_pos (by omega), if_pos (by omega), w64s i (by omega), ih k (i + 1) _ (by omega) (by omega)]
    split <;> rfl
theorem specReach_is (k : Nat) (cs : List S79) (fc st : List Int) (x y : Int) (a b : Nat) (s : Int) (ha : a < cs.length) (hb : fc.length ≤ 9223372036854775806) (hbl : b ≤ fc.length) (hk : fc.length < k) : spec_l08Range.f k cs fc st x y a b s = some (wrap64 ((reachOf cs fc a b s : Nat) - (b : Int))) := by
  unfold spec_l08Range.f reachOf
  exact specReach_l0 cs fc st x y a ha hb b (fc.length - b) k b s (by omega) (by omega)
end Go.Proofs.Ytajndapolblhmab.P
/- The stints of a cutter, as the reference reckons them. -/
namespace Go.Proofs.Ytajndapolblhmab.P
open Go.RowKit Go.Proofs.Ytajndapolblhmab.P Go.Proofs.YtajndapolblhmabW.PrintWords Go.Proofs.YtajndapolblhmabW.PrintLast Go.Proofs.YtajndapolblhmabW.PrintMore
set_option linter.unusedVariables false
set_option linter.unusedSimpArgs false
theorem specStints_l1 (cs : List S79) (fc st : List Int) (x y a b t : Int) (acc : List (List Int)) (hs : st.length ≤ 1048576) : ∀ (d k i : Nat) (c : Int), i + d = st.length → spec_l08Needs.l1 (k + d + 1) a acc b t c i cs fc st x y = (if nextOf st b t d i c < 0 then some ([], false) else (if acc.length < 5864062014805 then spec_l08Needs.l0 k a (acc ++ [[b, t]]) (nextOf st b t d i c) cs fc st x y else none)) := by
  intro d
  induction d with
  | zero =>
    intro k i c hi
    simp only [spec_l08Needs.l1, nextOf]
    rw [if_neg (by omega)]
    rfl
  | succ d ih =>
    intro k i c hi
    have hz := fun c => ih k (i + 1) c (by omega)
    obtain ⟨q, hq⟩ : ∃ q, q = k + d + 1 := ⟨_, rfl⟩
    rw [← hq] at hz
    have e : nextOf st b t (d + 1) i c = nextOf st b t d (i + 1) (if rd st (i : Int) > b then (if rd st (i : Int) ≤ t then rd st (i : Int) else c) else c) := rfl
    rw [show k + (d + 1) + 1 = q + 1 by omega, e]
    simp only [spec_l08Needs.l1]
    rw [if_pos (by omega), if_pos (by omega), w64s i (by omega), hz, hz]
    by_cases h1 : rd st (i : Int) > b
    · by_cases h2 : rd st (i : Int) ≤ t
      · rw [if_pos h1, if_pos h2, if_pos h1, if_pos h2]
      · rw [if_pos h1, if_neg h2, if_pos h1, if_neg h2]
    · rw [if_neg h1, if_neg h1]
theorem specStints_l0 (cs : List S79) (fc st : List Int) (x y : Int) (hb : fc.length ≤ 1048576) (hs : st.length ≤ 1048576) (a : Nat) (ha : a < cs.length) : ∀ (d k b : Nat) (acc : List (List Int)), b ≤ fc.length → fc.length + 1 ≤ b + d → acc.length ≤ b → fc.length + st.length + 5 + d * (st.length + 2) ≤ k → spec_l08Needs.l0 k a acc b cs fc st x y = some (stintsGo cs fc st a d b acc) := by
  intro d
  induction d with
  | zero => intro k b acc h1 h2 h3 h4; omega
  | succ d ih =>
    intro k b acc h1 h2 h3 h4
    have h5 : (d + 1) * (st.length + 2) = d * (st.length + 2) + st.length + 2 := by rw [Nat.succ_mul]; omega
    obtain ⟨k, rfl⟩ : ∃ m, k = m + st.length + 1 + 1 := ⟨k - st.length - 2, by omega⟩
    have hr := reachOf_in cs fc a b 0 h1
    have e : wrap64 ((b : Int) + wrap64 (((reachOf cs fc a b 0 : Nat) : Int) - (b : Int))) = ((reachOf cs fc a b 0 : Nat) : Int) := by
      rw [w64 (((reachOf cs fc a b 0 : Nat) : Int) - (b : Int)) (by omega) (by omega), w64 _ (by omega) (by omega)]; omega
    have hl1 := specStints_l1 cs fc st x y a b ((reachOf cs fc a b 0 : Nat) : Int) acc hs st.length k 0 (-1) (by omega)
    simp only [spec_l08Needs.l0, stintsGo]
    rw [specReach_is _ cs fc st x y a b 0 ha (by omega) h1 (by omega), bind_some_, e]
    by_cases hc : ((reachOf cs fc a b 0 : Nat) : Int) = (fc.length : Int)
    · rw [if_pos hc, if_pos hc]
    · rw [if_neg hc, if_neg hc]
      refine hl1.trans ?_
      rcases nextOf_in st b ((reachOf cs fc a b 0 : Nat) : Int) st.length 0 (-1) with hn | ⟨hn1, hn2⟩
      · rw [if_pos (by omega), if_pos (by omega)]
      · rw [if_neg (by omega), if_pos (by omega), if_neg (by omega)]
        obtain ⟨n, hn⟩ : ∃ n : Nat, nextOf st b ((reachOf cs fc a b 0 : Nat) : Int) st.length 0 (-1) = n := ⟨(nextOf st b ((reachOf cs fc a b 0 : Nat) : Int) st.length 0 (-1)).toNat, by omega⟩
        rw [hn] at hn1 hn2 ⊢
        rw [Int.toNat_natCast]
        exact ih k n _ (by omega) (by omega) (by simp; omega) (by omega)
theorem specStints_is (k : Nat) (cs : List S79) (fc st : List Int) (x y : Int) (hb : fc.length ≤ 1048576) (hs : st.length ≤ 1048576) (a : Nat) (ha : a < cs.length) (hk : fc.length + st.length + 5 + (fc.length + 1) * (st.length + 2) ≤ k) : spec_l08Needs.f k cs fc st x y a = some (stints cs fc st a) := by
  unfold spec_l08Needs.f stints
  exact specStints_l0 cs fc st x y hb hs a ha (fc.length + 1) k 0 [] (by omega) (by omega) (by simp) (by omega)

end Go.Proofs.Ytajndapolblhmab.P
/- The bound on a head's cost, as the reference reckons it. -/
namespace Go.Proofs.Ytajndapolblhmab.P
open Go.RowKit Go.Proofs.Ytajndapolblhmab.P Go.Proofs.YtajndapolblhmabW.PrintWords Go.Proofs.YtajndapolblhmabW.PrintLast Go.Proofs.YtajndapolblhmabW.PrintMore
set_option linter.unusedVariables false
set_option linter.unusedSimpArgs false
theorem specBound_l0 (cs : List S79) (fc st : List Int) (x y : Int) (hc : cs.length ≤ 5) (hf : fc.length ≤ 60) (hs : st.length ≤ 8) (hy : 0 ≤ y ∧ y ≤ 10000) : ∀ (d k i : Nat) (n m : Int), i + d = cs.length → 900 + d ≤ k → 0 ≤ n → n ≤ 61 * i → spec_BoundOf.l0 k (y * n) m i cs fc st x y = some (match bndGo cs fc st d i n m with
    | some p => (wrap64 (y * p.1 + wrap64 (x * p.2)), true)
    | none => (0, false)) := by
  intro d
  induction d with
  | zero =>
    intro k i n m hi hk h1 h2
    obtain ⟨k, rfl⟩ : ∃ m, k = m + 1 := ⟨k - 1, by omega⟩
    simp only [spec_BoundOf.l0, bndGo]
    rw [if_neg (by omega)]
  | succ d ih =>
    intro k i n m hi hk h1 h2
    obtain ⟨k, rfl⟩ : ∃ m, k = m + 1 := ⟨k - 1, by omega⟩
    have hfu : (fc.length + 1) * (st.length + 2) ≤ 61 * 10 := Nat.mul_le_mul (by omega) (by omega)
    have hl := stints_len cs fc st i
    simp only [spec_BoundOf.l0, bndGo]
    rw [if_pos (by omega), specStints_is k cs fc st x y (by omega) (by omega) i (by omega) (by omega), bind_some_]
    by_cases h : (stints cs fc st i).2 = true
    · have b1 := mul10k y n hy (by omega)
      have b2 := mul10k y ((stints cs fc st i).1.length : Int) hy (by omega)
      rw [if_pos h, if_pos h, l00Max_is, bind_some_, w64 (y * ((stints cs fc st i).1.length : Int)) (by omega) (by omega), w64 (y * n + y * ((stints cs fc st i).1.length : Int)) (by omega) (by omega), ← Int.mul_add, w64s i (by omega)]
      have em : (if m > ((stints cs fc st i).1.length : Int) then m else ((stints cs fc st i).1.length : Int)) = (if m < ((stints cs fc st i).1.length : Int) then ((stints cs fc st i).1.length : Int) else m) := by
        by_cases h3 : m > ((stints cs fc st i).1.length : Int)
        · rw [if_pos h3, if_neg (by omega)]
        · rw [if_neg h3]
          split <;> omega
      rw [em]
      exact ih k (i + 1) _ _ (by omega) (by omega) (by omega) (by omega)
    · rw [if_neg h, if_neg h]
theorem specBoundOf_is (k : Nat) (cs : List S79) (fc st : List Int) (x y : Int) (hc : cs.length ≤ 1048576) (hb : fc.length ≤ 1048576) (hs : st.length ≤ 1048576) (hk : cs.length + fc.length + st.length + 1000 < k) : spec_BoundOf.f k cs fc st x y = some (boundP cs fc st x y) := by
  unfold spec_BoundOf.f boundP
  rw [specIs_is k cs fc st x y hc hb hs (by omega), bind_some_]
  by_cases h : hdOk cs fc st x y = true
  · obtain ⟨h1, h2, h3, h4, h5⟩ := hdOk_in h
    rw [if_pos h, if_pos h]
    have := specBound_l0 cs fc st x y h1 h2 h3 h5 cs.length k 0 0 0 (by omega) (by omega) (by omega) (by omega)
    rw [Int.mul_zero] at this
    exact this
  · rw [if_neg h, if_neg h]

end Go.Proofs.Ytajndapolblhmab.P
