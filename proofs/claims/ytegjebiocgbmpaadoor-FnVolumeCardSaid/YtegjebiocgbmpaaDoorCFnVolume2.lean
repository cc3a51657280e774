/- What the claim of FnVolume bears, part 2: functions of the program as plain Lean functions, with proofs that the code comes to their answers, and lemmas on them. -/
import Derived.Test.YtegjebiocgbmpaaDoorCFnVolume0
import Derived.Test.YtegjebiocgbmpaaDoorCFnVolume1
-- Walks of this claim's functions, laid by a program of this session.
namespace Go.Proofs.YtegjebiocgbmpaaDoor.P
open Go.RowKit Go.Proofs.YtegjebiocgbmpaaDoorW.PrintWords Go.Proofs.YtegjebiocgbmpaaDoorW.PrintLast Go.Proofs.YtegjebiocgbmpaaDoorW.PrintMore
attribute [local go_sem] max2_int min2_int max_two min_two max_three min_three max_four min_four   -- for this text's walks alone
set_option linter.unusedVariables false
set_option linter.unusedSimpArgs false

/-! ### spec_l00In: function 30 -/
def spec_l00In.f (a0 : Int) (a1 : Int) (a2 : Int) : Option (Bool) := if a0 ≥ a1 then (some (decide (a0 ≤ a2))) else (some false)
set_option maxHeartbeats 8000000 in
set_option maxRecDepth 100000 in
theorem spec_l00In.calls (a0 : Int) (a1 : Int) (a2 : Int) (r : Bool) (w : World) (h : spec_l00In.f a0 a1 a2 = some r) :
    Calls Tryd.prog 30 #[.int .i64 a0, .int .i64 a1, .int .i64 a2] w fun e w' => e = .returned (.bool r) ∧ Drawn0 w w' := by
  have H : (if a0 ≥ a1 then (some (decide (a0 ≤ a2))) else (some false)) = some r := h
  clear h
  by_cases c4 : a0 ≥ a1
  · rw [if_pos c4] at H
    have c4b0 : decide (a1 ≤ a0) = true := decide_eq_true c4
    clear c4
    obtain rfl := Option.some.inj H
    go_enter Tryd.func30, Tryd.ntmps30
    go_wp2
    go_ret
    exact ⟨by first | rfl | (simp; done) | (simp [*]; done) | (simp [Int.tdiv_eq_ediv_of_nonneg, *]; done), by repeat (first | exact Drawn0.refl _ | apply Drawn0.step)⟩
  · rw [if_neg c4] at H
    have c4b0 : decide (a1 ≤ a0) = false := decide_eq_false c4
    clear c4
    obtain rfl := Option.some.inj H
    go_enter Tryd.func30, Tryd.ntmps30
    go_wp2
    go_ret
    exact ⟨by first | rfl | (simp; done) | (simp [*]; done) | (simp [Int.tdiv_eq_ediv_of_nonneg, *]; done), by repeat (first | exact Drawn0.refl _ | apply Drawn0.step)⟩

/-! ### spec_l07Litres: function 29 -/
def spec_l07Litres.f (a0 : Int) : Option (Bool) := (spec_l00In.f a0 0 100000).bind fun t101 => (some t101)
set_option maxHeartbeats 8000000 in
set_option maxRecDepth 100000 in
theorem spec_l07Litres.calls (a0 : Int) (r : Bool) (w : World) (h : spec_l07Litres.f a0 = some r) :
    Calls Tryd.prog 29 #[.int .i64 a0] w fun e w' => e = .returned (.bool r) ∧ Drawn0 w w' := by
  have H : ((spec_l00In.f a0 0 100000).bind fun t101 => (some t101)) = some r := h
  clear h
  replace H := Option.bind_eq_some_iff.mp H
  obtain ⟨t101, A20, H⟩ := H
  replace H : (some t101) = some r := H
  have A2 := Aside0.mk A20
  clear A20
  obtain rfl := Option.some.inj H
  go_enter Tryd.func29, Tryd.ntmps29
  go_wp2_with (first | ((with_reducible refine gate_callee (f := 30) rfl ?_); refine goesL_ (some 4) rfl rfl Tryd.func30 (by kernel_rfl) rfl #[.int .i64 a0, .int .i64 0, .int .i64 100000] rfl (by (try simp only [List.map_toArray, List.map_cons, List.map_nil]); first | done | rfl | (simp only [List.length_drop, List.length_take]; rfl)) ?_; (with_reducible refine (spec_l00In.calls a0 0 100000 t101 _ A2.out).mono ?_); rintro e w' ⟨rfl, ⟨nd, rfl⟩⟩; refine ⟨_, rfl, ?_⟩))
  go_ret
  exact ⟨by first | rfl | (simp; done) | (simp [*]; done) | (simp [Int.tdiv_eq_ediv_of_nonneg, *]; done), by repeat (first | exact Drawn0.refl _ | apply Drawn0.step)⟩

/-! ### spec_l07Losses: function 17 -/
def spec_l07Losses.l0 : Nat → List (S26) → Int → Option (Bool)
  | 0, _, _ => none
  | k + 1, x0, x3 => if x3 < (x0.length : Int) then (if 0 ≤ x3 then ((spec_l07Litres.f ((rd_T26 x0 x3).f1)).bind fun t104 => (if t104 = true then ((spec_l00In.f ((rd_T26 x0 x3).f2) 0 5).bind fun t105 => (if t105 = true then ((spec_l00In.f ((rd_T26 x0 x3).f0) ((rd_T26 x0 x3).f2) (wrap64 (23 - ((rd_T26 x0 x3).f2)))).bind fun t106 => (if t106 = true then (spec_l07Losses.l0 k x0 (wrap64 (x3 + 1))) else (some false))) else (some false))) else (some false))) else (none)) else (some (decide ((x0.length : Int) ≤ 12)))
def spec_l07Losses.f (k : Nat) (l0 : List (S26)) : Option (Bool) := spec_l07Losses.l0 k l0 0
theorem spec_l07Losses.mono_l : ∀ k, (∀ y0 y1, LeO (spec_l07Losses.l0 k y0 y1) (spec_l07Losses.l0 (k + 1) y0 y1))
  | 0 => fun _ _ r h => by simp [spec_l07Losses.l0] at h
  | k + 1 => by
    have ih0 := spec_l07Losses.mono_l k
    · intro y0 y1
      unfold spec_l07Losses.l0
      repeat' first
      | (with_reducible exact ih0 _ _)
      | (with_reducible exact LeO.refl _)
      | (with_reducible exact LeO.none _)
      | (with_reducible refine LeO.ite ?_ ?_)
      | (with_reducible refine LeO.bind ?_ (fun _ => ?_))
      | exact ih0 _ _
      | exact LeO.none _
      | refine LeO.ite ?_ ?_
      | refine LeO.bind ?_ (fun _ => ?_)
theorem spec_l07Losses.mono : ∀ a0 k, LeO (spec_l07Losses.f k a0) (spec_l07Losses.f (k + 1) a0) := by
  intro a0 k
  have ih0 := spec_l07Losses.mono_l k
  unfold spec_l07Losses.f
  repeat' first
      | (with_reducible exact ih0 _ _)
      | (with_reducible exact LeO.refl _)
      | (with_reducible exact LeO.none _)
      | (with_reducible refine LeO.ite ?_ ?_)
      | (with_reducible refine LeO.bind ?_ (fun _ => ?_))
      | exact ih0 _ _
      | exact LeO.none _
      | refine LeO.ite ?_ ?_
      | refine LeO.bind ?_ (fun _ => ?_)
set_option maxHeartbeats 8000000 in
set_option maxRecDepth 100000 in
theorem spec_l07Losses.calls (k : Nat) (A0 : Option Addr) (c0 : Nat) (l0 : List (S26)) (r : Bool) (w : World) (hr0 : Kd.C k26 w A0 l0.length l0) (hc0 : l0.length ≤ c0) (h : spec_l07Losses.f k l0 = some r) :
    Calls Tryd.prog 17 #[.slice A0 l0.length c0] w fun e w' => e = .returned (.bool r) ∧ Below w.heap.size w w' := by
  have hu26 := Tryd.underlying26
  have HR0 := Aside0.mk hr0
  have HC0 := Aside0.mk hc0
  clear hr0 hc0
  have HB := Aside0.mk (Below.refl w.heap.size w)
  have H : (spec_l07Losses.l0 k l0 0) = some r := h
  clear h
  have H' := Aside0.mk H
  clear H
  go_enter Tryd.func17, Tryd.ntmps17
  go_wp2
  go_loopg [3] k (fun kq v3 w' => ∃ (x3_1 : Int), v3 = .int .i64 x3_1 ∧ Aside0 (spec_l07Losses.l0 kq l0 x3_1 = some r) ∧ Aside0 (kq ≤ k) ∧ Aside0 (Below w.heap.size w w'))
  case atStart => exact ⟨(0), (by first | rfl | (simp; done) | (simp [*]; done) | (simp [Int.tdiv_eq_ediv_of_nonneg, *]; done)), H', ⟨Nat.le_refl _⟩, ⟨by repeat (first | (with_reducible first | exact HB.out | apply below_alloc | apply pw_below_drewN | apply below_drew1) | exact HB.out)⟩⟩
  case round =>
    clear H'
    try clear c1
    obtain ⟨x3_1, rfl, HA, HK1, HB⟩ := hrel
    cases gk with
    | zero => exact absurd HA.out (by simp [spec_l07Losses.l0])
    | succ k1 =>
      have H := HA.out
      clear HA
      simp only [spec_l07Losses.l0] at H
      by_cases c2 : x3_1 < (l0.length : Int)
      · rw [if_pos c2] at H
        have c2b0 : decide (x3_1 < (l0.length : Int)) = true := decide_eq_true c2
        clear c2
        by_cases c3 : 0 ≤ x3_1
        · rw [if_pos c3] at H
          have c3b0 : decide (0 ≤ x3_1) = true := decide_eq_true c3
          clear c3
          replace H := Option.bind_eq_some_iff.mp H
          obtain ⟨t104, A40, H⟩ := H
          replace H : (if t104 = true then ((spec_l00In.f ((rd_T26 l0 x3_1).f2) 0 5).bind fun t105 => (if t105 = true then ((spec_l00In.f ((rd_T26 l0 x3_1).f0) ((rd_T26 l0 x3_1).f2) (wrap64 (23 - ((rd_T26 l0 x3_1).f2)))).bind fun t106 => (if t106 = true then (spec_l07Losses.l0 k1 l0 (wrap64 (x3_1 + 1))) else (some false))) else (some false))) else (some false)) = some r := H
          have A4 := Aside0.mk A40
          clear A40
          by_cases c5 : t104 = true
          · subst c5
            have H1 : ((spec_l00In.f ((rd_T26 l0 x3_1).f2) 0 5).bind fun t105 => (if t105 = true then ((spec_l00In.f ((rd_T26 l0 x3_1).f0) ((rd_T26 l0 x3_1).f2) (wrap64 (23 - ((rd_T26 l0 x3_1).f2)))).bind fun t106 => (if t106 = true then (spec_l07Losses.l0 k1 l0 (wrap64 (x3_1 + 1))) else (some false))) else (some false))) = some r := by rw [if_pos rfl] at H; exact H
            clear H
            have H := H1
            clear H1
            replace H := Option.bind_eq_some_iff.mp H
            obtain ⟨t105, A60, H⟩ := H
            replace H : (if t105 = true then ((spec_l00In.f ((rd_T26 l0 x3_1).f0) ((rd_T26 l0 x3_1).f2) (wrap64 (23 - ((rd_T26 l0 x3_1).f2)))).bind fun t106 => (if t106 = true then (spec_l07Losses.l0 k1 l0 (wrap64 (x3_1 + 1))) else (some false))) else (some false)) = some r := H
            have A6 := Aside0.mk A60
            clear A60
            by_cases c7 : t105 = true
            · subst c7
              have H1 : ((spec_l00In.f ((rd_T26 l0 x3_1).f0) ((rd_T26 l0 x3_1).f2) (wrap64 (23 - ((rd_T26 l0 x3_1).f2)))).bind fun t106 => (if t106 = true then (spec_l07Losses.l0 k1 l0 (wrap64 (x3_1 + 1))) else (some false))) = some r := by rw [if_pos rfl] at H; exact H
              clear H
              have H := H1
              clear H1
              replace H := Option.bind_eq_some_iff.mp H
              obtain ⟨t106, A80, H⟩ := H
              replace H : (if t106 = true then (spec_l07Losses.l0 k1 l0 (wrap64 (x3_1 + 1))) else (some false)) = some r := H
              have A8 := Aside0.mk A80
              clear A80
              by_cases c9 : t106 = true
              · subst c9
                have H1 : (spec_l07Losses.l0 k1 l0 (wrap64 (x3_1 + 1))) = some r := by rw [if_pos rfl] at H; exact H
                clear H
                have H := H1
                clear H1
                have H' := Aside0.mk H
                clear H
                have p102 : 0 ≤ (x3_1 : Int) := of_decide_eq_true (by first | (with_reducible assumption) | assumption)
                have q102 : x3_1 < (l0.length : Int) := of_decide_eq_true (by first | (with_reducible assumption) | assumption)
                obtain ⟨ad102, e102, hx102_0, hx102_1, hx102_2⟩ := at_T26 HR0.out x3_1 p102 q102
                cases e102
                replace hx102_0 := (HB.out.cell (World.block_lt_of_cell? w _ hx102_0)).trans hx102_0
                replace hx102_1 := (HB.out.cell (World.block_lt_of_cell? w _ hx102_1)).trans hx102_1
                replace hx102_2 := (HB.out.cell (World.block_lt_of_cell? w _ hx102_2)).trans hx102_2
                replace p102 := eq_true p102
                replace q102 := eq_true q102
                go_wp2_with (first | ((with_reducible refine gate_dst (N := 4) rfl ?_); refine box_event ?hg (N := 4) ?hd (cs := #[.int .i64 0, .int .i64 0, .int .i64 0]) (t := 26) ?hr ?_; (case hd => rfl); (case hg => rfl); (case hr => first | (go_simp; done) | (go_simp; rfl)); intro gb103 hg w10 hbox hb; have n0_ := Aside0.mk (below_step (by repeat (first | (with_reducible first | exact HB.out | apply below_alloc | apply pw_below_drewN | apply below_drew1) | exact HB.out)) hb); have n1_ := Aside0.mk (hbox); have n2_ := Aside0.mk ((by rw [hg]; exact (below_size (by repeat (first | (with_reducible first | exact HB.out | apply below_alloc | apply pw_below_drewN | apply below_drew1) | exact HB.out))) : w.heap.size ≤ gb103)); have n3_ := Aside0.mk ((by rw [hg]; exact (below_size (by repeat (first | (with_reducible first | exact HB.out | apply below_alloc | apply pw_below_drewN | apply below_drew1) | exact HB.out))) : w.heap.size ≤ gb103)); clear HB; have HB := n0_; have BK103 := n1_; have GW103 := n2_; have GE103 := n3_; clear n0_ n1_ n2_ n3_; clear hb hbox hg; have hcz11_0 : w10.cell? ⟨gb103, 0, none⟩ = some (.int .i64 0) := (blk_cell BK103.out 0).trans rfl; have hcz11_1 : w10.cell? ⟨gb103, 1, none⟩ = some (.int .i64 0) := (blk_cell BK103.out 1).trans rfl; have hcz11_2 : w10.cell? ⟨gb103, 2, none⟩ = some (.int .i64 0) := (blk_cell BK103.out 2).trans rfl; have hfz11_0 := blk_frozen BK103.out 0; have hfz11_1 := blk_frozen BK103.out 1; have hfz11_2 := blk_frozen BK103.out 2) | ((with_reducible refine gate_callee (f := 29) rfl ?_); refine goesL_ (some 17) rfl rfl Tryd.func29 (by kernel_rfl) rfl #[.int .i64 ((rd_T26 l0 x3_1).f1)] rfl (by (try simp only [List.map_toArray, List.map_cons, List.map_nil]); first | done | rfl | (simp only [List.length_drop, List.length_take]; rfl)) ?_; (with_reducible refine (spec_l07Litres.calls ((rd_T26 l0 x3_1).f1) true _ A4.out).mono ?_); rintro e w' ⟨rfl, ⟨nd, rfl⟩⟩; refine ⟨_, rfl, ?_⟩) | (go_at_call 30; (with_reducible refine (spec_l00In.calls ((rd_T26 l0 x3_1).f2) 0 5 true _ A6.out).mono ?_); rintro e w' ⟨rfl, ⟨nd, rfl⟩⟩) | (go_at_call 30; (with_reducible refine (spec_l00In.calls ((rd_T26 l0 x3_1).f0) ((rd_T26 l0 x3_1).f2) (wrap64 (23 - ((rd_T26 l0 x3_1).f2))) true _ A8.out).mono ?_); rintro e w' ⟨rfl, ⟨nd, rfl⟩⟩))
                go_roundg k1
                case measure => have := HK1.out; omega
                case rel => exact ⟨(wrap64 (x3_1 + 1)), (by first | rfl | (simp; done) | (simp [*]; done) | (simp [Int.tdiv_eq_ediv_of_nonneg, *]; done)), H', ⟨by have := HK1.out; omega⟩, ⟨by repeat (first | (with_reducible first | exact HB.out | apply below_alloc | apply pw_below_drewN | apply below_drew1 | refine below_set ?_ GE103.out) | exact HB.out)⟩⟩
              · replace c9 := Bool.eq_false_iff.mpr c9
                subst c9
                have H1 : (some false) = some r := by rw [if_neg (show ¬ (false = true) by decide)] at H; exact H
                clear H
                have H := H1
                clear H1
                obtain rfl := Option.some.inj H
                have p102 : 0 ≤ (x3_1 : Int) := of_decide_eq_true (by first | (with_reducible assumption) | assumption)
                have q102 : x3_1 < (l0.length : Int) := of_decide_eq_true (by first | (with_reducible assumption) | assumption)
                obtain ⟨ad102, e102, hx102_0, hx102_1, hx102_2⟩ := at_T26 HR0.out x3_1 p102 q102
                cases e102
                replace hx102_0 := (HB.out.cell (World.block_lt_of_cell? w _ hx102_0)).trans hx102_0
                replace hx102_1 := (HB.out.cell (World.block_lt_of_cell? w _ hx102_1)).trans hx102_1
                replace hx102_2 := (HB.out.cell (World.block_lt_of_cell? w _ hx102_2)).trans hx102_2
                replace p102 := eq_true p102
                replace q102 := eq_true q102
                go_wp2_with (first | ((with_reducible refine gate_dst (N := 4) rfl ?_); refine box_event ?hg (N := 4) ?hd (cs := #[.int .i64 0, .int .i64 0, .int .i64 0]) (t := 26) ?hr ?_; (case hd => rfl); (case hg => rfl); (case hr => first | (go_simp; done) | (go_simp; rfl)); intro gb103 hg w12 hbox hb; have n0_ := Aside0.mk (below_step (by repeat (first | (with_reducible first | exact HB.out | apply below_alloc | apply pw_below_drewN | apply below_drew1) | exact HB.out)) hb); have n1_ := Aside0.mk (hbox); have n2_ := Aside0.mk ((by rw [hg]; exact (below_size (by repeat (first | (with_reducible first | exact HB.out | apply below_alloc | apply pw_below_drewN | apply below_drew1) | exact HB.out))) : w.heap.size ≤ gb103)); have n3_ := Aside0.mk ((by rw [hg]; exact (below_size (by repeat (first | (with_reducible first | exact HB.out | apply below_alloc | apply pw_below_drewN | apply below_drew1) | exact HB.out))) : w.heap.size ≤ gb103)); clear HB; have HB := n0_; have BK103 := n1_; have GW103 := n2_; have GE103 := n3_; clear n0_ n1_ n2_ n3_; clear hb hbox hg; have hcz13_0 : w12.cell? ⟨gb103, 0, none⟩ = some (.int .i64 0) := (blk_cell BK103.out 0).trans rfl; have hcz13_1 : w12.cell? ⟨gb103, 1, none⟩ = some (.int .i64 0) := (blk_cell BK103.out 1).trans rfl; have hcz13_2 : w12.cell? ⟨gb103, 2, none⟩ = some (.int .i64 0) := (blk_cell BK103.out 2).trans rfl; have hfz13_0 := blk_frozen BK103.out 0; have hfz13_1 := blk_frozen BK103.out 1; have hfz13_2 := blk_frozen BK103.out 2) | ((with_reducible refine gate_callee (f := 29) rfl ?_); refine goesL_ (some 17) rfl rfl Tryd.func29 (by kernel_rfl) rfl #[.int .i64 ((rd_T26 l0 x3_1).f1)] rfl (by (try simp only [List.map_toArray, List.map_cons, List.map_nil]); first | done | rfl | (simp only [List.length_drop, List.length_take]; rfl)) ?_; (with_reducible refine (spec_l07Litres.calls ((rd_T26 l0 x3_1).f1) true _ A4.out).mono ?_); rintro e w' ⟨rfl, ⟨nd, rfl⟩⟩; refine ⟨_, rfl, ?_⟩) | (go_at_call 30; (with_reducible refine (spec_l00In.calls ((rd_T26 l0 x3_1).f2) 0 5 true _ A6.out).mono ?_); rintro e w' ⟨rfl, ⟨nd, rfl⟩⟩) | (go_at_call 30; (with_reducible refine (spec_l00In.calls ((rd_T26 l0 x3_1).f0) ((rd_T26 l0 x3_1).f2) (wrap64 (23 - ((rd_T26 l0 x3_1).f2))) false _ A8.out).mono ?_); rintro e w' ⟨rfl, ⟨nd, rfl⟩⟩))
                go_ret
                exact ⟨by first | rfl | (simp [errW_none, errW_some] <;> rfl) | (simp [*, errW_none, errW_some] <;> rfl) | (simp [Int.tdiv_eq_ediv_of_nonneg, *]; done), by repeat (first | (with_reducible first | exact HB.out | apply below_alloc | apply pw_below_drewN | apply below_drew1 | refine below_set ?_ GE103.out) | exact HB.out)⟩
            · replace c7 := Bool.eq_false_iff.mpr c7
              subst c7
              have H1 : (some false) = some r := by rw [if_neg (show ¬ (false = true) by decide)] at H; exact H
              clear H
              have H := H1
              clear H1
              obtain rfl := Option.some.inj H
              have p102 : 0 ≤ (x3_1 : Int) := of_decide_eq_true (by first | (with_reducible assumption) | assumption)
              have q102 : x3_1 < (l0.length : Int) := of_decide_eq_true (by first | (with_reducible assumption) | assumption)
              obtain ⟨ad102, e102, hx102_0, hx102_1, hx102_2⟩ := at_T26 HR0.out x3_1 p102 q102
              cases e102
              replace hx102_0 := (HB.out.cell (World.block_lt_of_cell? w _ hx102_0)).trans hx102_0
              replace hx102_1 := (HB.out.cell (World.block_lt_of_cell? w _ hx102_1)).trans hx102_1
              replace hx102_2 := (HB.out.cell (World.block_lt_of_cell? w _ hx102_2)).trans hx102_2
              replace p102 := eq_true p102
              replace q102 := eq_true q102
              go_wp2_with (first | ((with_reducible refine gate_dst (N := 4) rfl ?_); refine box_event ?hg (N := 4) ?hd (cs := #[.int .i64 0, .int .i64 0, .int .i64 0]) (t := 26) ?hr ?_; (case hd => rfl); (case hg => rfl); (case hr => first | (go_simp; done) | (go_simp; rfl)); intro gb103 hg w14 hbox hb; have n0_ := Aside0.mk (below_step (by repeat (first | (with_reducible first | exact HB.out | apply below_alloc | apply pw_below_drewN | apply below_drew1) | exact HB.out)) hb); have n1_ := Aside0.mk (hbox); have n2_ := Aside0.mk ((by rw [hg]; exact (below_size (by repeat (first | (with_reducible first | exact HB.out | apply below_alloc | apply pw_below_drewN | apply below_drew1) | exact HB.out))) : w.heap.size ≤ gb103)); have n3_ := Aside0.mk ((by rw [hg]; exact (below_size (by repeat (first | (with_reducible first | exact HB.out | apply below_alloc | apply pw_below_drewN | apply below_drew1) | exact HB.out))) : w.heap.size ≤ gb103)); clear HB; have HB := n0_; have BK103 := n1_; have GW103 := n2_; have GE103 := n3_; clear n0_ n1_ n2_ n3_; clear hb hbox hg; have hcz15_0 : w14.cell? ⟨gb103, 0, none⟩ = some (.int .i64 0) := (blk_cell BK103.out 0).trans rfl; have hcz15_1 : w14.cell? ⟨gb103, 1, none⟩ = some (.int .i64 0) := (blk_cell BK103.out 1).trans rfl; have hcz15_2 : w14.cell? ⟨gb103, 2, none⟩ = some (.int .i64 0) := (blk_cell BK103.out 2).trans rfl; have hfz15_0 := blk_frozen BK103.out 0; have hfz15_1 := blk_frozen BK103.out 1; have hfz15_2 := blk_frozen BK103.out 2) | ((with_reducible refine gate_callee (f := 29) rfl ?_); refine goesL_ (some 17) rfl rfl Tryd.func29 (by kernel_rfl) rfl #[.int .i64 ((rd_T26 l0 x3_1).f1)] rfl (by (try simp only [List.map_toArray, List.map_cons, List.map_nil]); first | done | rfl | (simp only [List.length_drop, List.length_take]; rfl)) ?_; (with_reducible refine (spec_l07Litres.calls ((rd_T26 l0 x3_1).f1) true _ A4.out).mono ?_); rintro e w' ⟨rfl, ⟨nd, rfl⟩⟩; refine ⟨_, rfl, ?_⟩) | (go_at_call 30; (with_reducible refine (spec_l00In.calls ((rd_T26 l0 x3_1).f2) 0 5 false _ A6.out).mono ?_); rintro e w' ⟨rfl, ⟨nd, rfl⟩⟩))
              go_ret
              exact ⟨by first | rfl | (simp [errW_none, errW_some] <;> rfl) | (simp [*, errW_none, errW_some] <;> rfl) | (simp [Int.tdiv_eq_ediv_of_nonneg, *]; done), by repeat (first | (with_reducible first | exact HB.out | apply below_alloc | apply pw_below_drewN | apply below_drew1 | refine below_set ?_ GE103.out) | exact HB.out)⟩
          · replace c5 := Bool.eq_false_iff.mpr c5
            subst c5
            have H1 : (some false) = some r := by rw [if_neg (show ¬ (false = true) by decide)] at H; exact H
            clear H
            have H := H1
            clear H1
            obtain rfl := Option.some.inj H
            have p102 : 0 ≤ (x3_1 : Int) := of_decide_eq_true (by first | (with_reducible assumption) | assumption)
            have q102 : x3_1 < (l0.length : Int) := of_decide_eq_true (by first | (with_reducible assumption) | assumption)
            obtain ⟨ad102, e102, hx102_0, hx102_1, hx102_2⟩ := at_T26 HR0.out x3_1 p102 q102
            cases e102
            replace hx102_0 := (HB.out.cell (World.block_lt_of_cell? w _ hx102_0)).trans hx102_0
            replace hx102_1 := (HB.out.cell (World.block_lt_of_cell? w _ hx102_1)).trans hx102_1
            replace hx102_2 := (HB.out.cell (World.block_lt_of_cell? w _ hx102_2)).trans hx102_2
            replace p102 := eq_true p102
            replace q102 := eq_true q102
            go_wp2_with (first | ((with_reducible refine gate_dst (N := 4) rfl ?_); refine box_event ?hg (N := 4) ?hd (cs := #[.int .i64 0, .int .i64 0, .int .i64 0]) (t := 26) ?hr ?_; (case hd => rfl); (case hg => rfl); (case hr => first | (go_simp; done) | (go_simp; rfl)); intro gb103 hg w16 hbox hb; have n0_ := Aside0.mk (below_step (by repeat (first | (with_reducible first | exact HB.out | apply below_alloc | apply pw_below_drewN | apply below_drew1) | exact HB.out)) hb); have n1_ := Aside0.mk (hbox); have n2_ := Aside0.mk ((by rw [hg]; exact (below_size (by repeat (first | (with_reducible first | exact HB.out | apply below_alloc | apply pw_below_drewN | apply below_drew1) | exact HB.out))) : w.heap.size ≤ gb103)); have n3_ := Aside0.mk ((by rw [hg]; exact (below_size (by repeat (first | (with_reducible first | exact HB.out | apply below_alloc | apply pw_below_drewN | apply below_drew1) | exact HB.out))) : w.heap.size ≤ gb103)); clear HB; have HB := n0_; have BK103 := n1_; have GW103 := n2_; have GE103 := n3_; clear n0_ n1_ n2_ n3_; clear hb hbox hg; have hcz17_0 : w16.cell? ⟨gb103, 0, none⟩ = some (.int .i64 0) := (blk_cell BK103.out 0).trans rfl; have hcz17_1 : w16.cell? ⟨gb103, 1, none⟩ = some (.int .i64 0) := (blk_cell BK103.out 1).trans rfl; have hcz17_2 : w16.cell? ⟨gb103, 2, none⟩ = some (.int .i64 0) := (blk_cell BK103.out 2).trans rfl; have hfz17_0 := blk_frozen BK103.out 0; have hfz17_1 := blk_frozen BK103.out 1; have hfz17_2 := blk_frozen BK103.out 2) | ((with_reducible refine gate_callee (f := 29) rfl ?_); refine goesL_ (some 17) rfl rfl Tryd.func29 (by kernel_rfl) rfl #[.int .i64 ((rd_T26 l0 x3_1).f1)] rfl (by (try simp only [List.map_toArray, List.map_cons, List.map_nil]); first | done | rfl | (simp only [List.length_drop, List.length_take]; rfl)) ?_; (with_reducible refine (spec_l07Litres.calls ((rd_T26 l0 x3_1).f1) false _ A4.out).mono ?_); rintro e w' ⟨rfl, ⟨nd, rfl⟩⟩; refine ⟨_, rfl, ?_⟩))
            go_ret
            exact ⟨by first | rfl | (simp [errW_none, errW_some] <;> rfl) | (simp [*, errW_none, errW_some] <;> rfl) | (simp [Int.tdiv_eq_ediv_of_nonneg, *]; done), by repeat (first | (with_reducible first | exact HB.out | apply below_alloc | apply pw_below_drewN | apply below_drew1 | refine below_set ?_ GE103.out) | exact HB.out)⟩
        · rw [if_neg c3] at H
          exact absurd H (by simp)
      · rw [if_neg c2] at H
        have c2b0 : decide (x3_1 < (l0.length : Int)) = false := decide_eq_false c2
        clear c2
        obtain rfl := Option.some.inj H
        go_wp2
        go_ret
        exact ⟨by first | rfl | (simp [errW_none, errW_some] <;> rfl) | (simp [*, errW_none, errW_some] <;> rfl) | (simp [Int.tdiv_eq_ediv_of_nonneg, *]; done), by repeat (first | (with_reducible first | exact HB.out | apply below_alloc | apply pw_below_drewN | apply below_drew1) | exact HB.out)⟩

/-! ### spec_l01Dec: function 31 -/
mutual
def spec_l01Dec.j0 : Nat → ByteArray → Int → Option (ByteArray)
  | 0, _, _ => none
  | k + 1, x3, x4 => spec_l01Dec.l0 k x3 (wrap64 (Int.tdiv x4 10)) (strOfNums (([(wrap64 (48 - (Int.tmod x4 10))) % 256] : List Int)))
def spec_l01Dec.l0 : Nat → ByteArray → Int → ByteArray → Option (ByteArray)
  | 0, _, _, _ => none
  | k + 1, x3, x4, x5 => if x4 < 0 then ((some (([(wrap64 (48 - (Int.tmod x4 10))) % 256] : List Int) : List Int)).bind fun y110 => (if (strOfNums y110).size + x5.size ≤ 9223372036854775807 then (spec_l01Dec.l0 k x3 (wrap64 (Int.tdiv x4 10)) ((strOfNums y110) ++ x5)) else (none))) else (if x3.size + x5.size ≤ 9223372036854775807 then (some (x3 ++ x5)) else (none))
end
def spec_l01Dec.f (k : Nat) (a0 : Int) : Option (ByteArray) := if a0 < 0 then (spec_l01Dec.j0 k (⟨#[45]⟩ : ByteArray) a0) else (spec_l01Dec.j0 k (⟨#[]⟩ : ByteArray) (wrap64 (-a0)))
theorem spec_l01Dec.mono_l : ∀ k, (∀ y0 y1, LeO (spec_l01Dec.j0 k y0 y1) (spec_l01Dec.j0 (k + 1) y0 y1)) ∧ (∀ y0 y1 y2, LeO (spec_l01Dec.l0 k y0 y1 y2) (spec_l01Dec.l0 (k + 1) y0 y1 y2))
  | 0 => ⟨fun _ _ r h => by simp [spec_l01Dec.j0] at h, fun _ _ _ r h => by simp [spec_l01Dec.l0] at h⟩
  | k + 1 => by
    obtain ⟨ih0, ih1⟩ := spec_l01Dec.mono_l k
    refine ⟨?_, ?_⟩
    · intro y0 y1
      unfold spec_l01Dec.j0
      repeat' first
      | (with_reducible exact ih0 _ _)
      | (with_reducible exact ih1 _ _ _)
      | (with_reducible exact LeO.refl _)
      | (with_reducible exact LeO.none _)
      | (with_reducible refine LeO.ite ?_ ?_)
      | (with_reducible refine LeO.bind ?_ (fun _ => ?_))
      | exact ih0 _ _
      | exact ih1 _ _ _
      | exact LeO.none _
      | refine LeO.ite ?_ ?_
      | refine LeO.bind ?_ (fun _ => ?_)
    · intro y0 y1 y2
      unfold spec_l01Dec.l0
      repeat' first
      | (with_reducible exact ih0 _ _)
      | (with_reducible exact ih1 _ _ _)
      | (with_reducible exact LeO.refl _)
      | (with_reducible exact LeO.none _)
      | (with_reducible refine LeO.ite ?_ ?_)
      | (with_reducible refine LeO.bind ?_ (fun _ => ?_))
      | exact ih0 _ _
      | exact ih1 _ _ _
      | exact LeO.none _
      | refine LeO.ite ?_ ?_
      | refine LeO.bind ?_ (fun _ => ?_)
theorem spec_l01Dec.mono : ∀ a0 k, LeO (spec_l01Dec.f k a0) (spec_l01Dec.f (k + 1) a0) := by
  intro a0 k
  obtain ⟨ih0, ih1⟩ := spec_l01Dec.mono_l k
  unfold spec_l01Dec.f
  repeat' first
      | (with_reducible exact ih0 _ _)
      | (with_reducible exact ih1 _ _ _)
      | (with_reducible exact LeO.refl _)
      | (with_reducible exact LeO.none _)
      | (with_reducible refine LeO.ite ?_ ?_)
      | (with_reducible refine LeO.bind ?_ (fun _ => ?_))
      | exact ih0 _ _
      | exact ih1 _ _ _
      | exact LeO.none _
      | refine LeO.ite ?_ ?_
      | refine LeO.bind ?_ (fun _ => ?_)
set_option maxHeartbeats 8000000 in
set_option maxRecDepth 100000 in
theorem spec_l01Dec.calls (k : Nat) (a0 : Int) (r : ByteArray) (w : World) (h : spec_l01Dec.f k a0 = some r) :
    Calls Tryd.prog 31 #[.int .i64 a0] w fun e w' => e = .returned (.string r) ∧ Below w.heap.size w w' := by
  have HB := Aside0.mk (Below.refl w.heap.size w)
  have H : (if a0 < 0 then (spec_l01Dec.j0 k (⟨#[45]⟩ : ByteArray) a0) else (spec_l01Dec.j0 k (⟨#[]⟩ : ByteArray) (wrap64 (-a0)))) = some r := h
  clear h
  have HC2 := Aside0.mk H
  clear H
  go_enter Tryd.func31, Tryd.ntmps31
  go_upto_if 8 with (fail)
  go_cut [3, 4] (fun v3 v4 wc => ∃ (kq : Nat) (x3_1 : ByteArray) (x4_1 : Int), v3 = .string x3_1 ∧ v4 = .int .i64 x4_1 ∧ Aside0 (spec_l01Dec.j0 kq x3_1 x4_1 = some r) ∧ Aside0 (kq ≤ k) ∧ Aside0 (Below w.heap.size w wc))
  case first =>
    have H := HC2.out
    clear HC2
    by_cases c3 : a0 < 0
    · rw [if_pos c3] at H
      have c3b0 : decide (a0 < 0) = true := decide_eq_true c3
      clear c3
      (first | rw [c3b0] | (simp only [i64_w, i32_w]; rw [c3b0]) | skip)
      have H' := Aside0.mk H
      clear H
      go_wp2
      go_meet
      case rel => exact ⟨_, ((⟨#[45]⟩ : ByteArray)), (a0), (by first | rfl | (simp; done) | (simp [*]; done) | (simp [Int.tdiv_eq_ediv_of_nonneg, *]; done)), (by first | rfl | (simp; done) | (simp [*]; done) | (simp [Int.tdiv_eq_ediv_of_nonneg, *]; done)), H', ⟨by first | omega | exact Nat.le_refl _⟩, ⟨by repeat (first | (with_reducible first | exact HB.out | apply below_alloc | apply pw_below_drewN | apply below_drew1) | exact HB.out)⟩⟩
    · rw [if_neg c3] at H
      have c3b0 : decide (a0 < 0) = false := decide_eq_false c3
      clear c3
      (first | rw [c3b0] | (simp only [i64_w, i32_w]; rw [c3b0]) | skip)
      have H' := Aside0.mk H
      clear H
      go_wp2
      go_meet
      case rel => exact ⟨_, ((⟨#[]⟩ : ByteArray)), (wrap64 (-a0)), (by first | rfl | (simp; done) | (simp [*]; done) | (simp [Int.tdiv_eq_ediv_of_nonneg, *]; done)), (by first | rfl | (simp; done) | (simp [*]; done) | (simp [Int.tdiv_eq_ediv_of_nonneg, *]; done)), H', ⟨by first | omega | exact Nat.le_refl _⟩, ⟨by repeat (first | (with_reducible first | exact HB.out | apply below_alloc | apply pw_below_drewN | apply below_drew1) | exact HB.out)⟩⟩
  case rest =>
    clear HC2
    try clear p2
    try clear c3
    try clear c3b0
    obtain ⟨kq, x3_1, x4_1, rfl, rfl, HA, HJ1, HB⟩ := hcut
    cases kq with
    | zero => exact absurd HA.out (by simp [spec_l01Dec.j0])
    | succ kj1 =>
      have H := HA.out
      clear HA
      simp only [spec_l01Dec.j0] at H
      obtain ⟨y107, hy107⟩ : ∃ y_ : List Int, y_ = (([(wrap64 (48 - (Int.tmod x4_1 10))) % 256] : List Int)) := ⟨_, rfl⟩
      replace H : (spec_l01Dec.l0 kj1 x3_1 (wrap64 (Int.tdiv x4_1 10)) (strOfNums y107)) = some r := by first | (rw [hy107]; with_reducible exact H) | (have H2_ := (Option.bind_some _ _).symm.trans H; rw [hy107]; with_reducible exact H2_) | (have H2_ := (Option.bind_some _ _).symm.trans H; with_reducible exact H2_) | with_reducible exact H | (rw [hy107]; exact H) | exact H
      have Ny107 := Aside0.mk hy107
      clear hy107
      have H' := Aside0.mk H
      clear H
      go_wp2_with (first | ((with_reducible refine gate_dst (N := 15) rfl ?_); refine Kd.R_lit (Kd.int .u8) _ 5 ?hg (N := 15) ?hd (xs := ([(wrap64 (48 - (Int.tmod x4_1 10))) % 256] : List Int)) (inner := [.int .u8 ((wrap64 (48 - (Int.tmod x4_1 10))) % 256)]) (ok := fun _ => True) (okp := fun _ => True) ?hr ?hp (fun _ hk => hk) trivial (Below.refl _ _) (Nat.le_refl _) (by simp) ?_; (case hd => rfl); (case hg => rfl); (case hr => first | (go_simp; done) | (go_simp; rfl)); (case hp => exact (Reps.one (show Kd.M (Kd.int .u8) _ _ _ ((wrap64 (48 - (Int.tmod x4_1 10))) % 256) [.int .u8 ((wrap64 (48 - (Int.tmod x4_1 10))) % 256)] from rfl) (Reps.none _ _))); intro v108 w4 ho5 hb hg_ hnew_; clear hg_ hnew_; (first | rw [← Ny107.out] at ho5 | (simp only [Int.reduceToNat] at ho5; rw [← Ny107.out] at ho5)); have n0_ := Aside0.mk (Kd.R_lower ho5 (below_size (by repeat (first | (with_reducible first | exact HB.out | apply below_alloc | apply pw_below_drewN | apply below_drew1) | exact HB.out)))); have n1_ := Aside0.mk (below_step (by repeat (first | (with_reducible first | exact HB.out | apply below_alloc | apply pw_below_drewN | apply below_drew1) | exact HB.out)) hb); clear HB; have HO109 := n0_; have HB := n1_; clear n0_ n1_; clear hb ho5; have hcv6 := own_string (P := Tryd.prog) Tryd.underlying29 Tryd.underlying5 Tryd.underlying9 (Kd.own_of_R HO109.out)))
      go_loopg [4, 5] kj1 (fun kq v4 v5 w' => ∃ (x4_2 : Int) (x5_2 : ByteArray), v4 = .int .i64 x4_2 ∧ v5 = .string x5_2 ∧ Aside0 (spec_l01Dec.l0 kq x3_1 x4_2 x5_2 = some r) ∧ Aside0 (kq ≤ kj1) ∧ Aside0 (Below w.heap.size w w'))
      case atStart => exact ⟨(wrap64 (Int.tdiv x4_1 10)), (strOfNums y107), (by first | rfl | (simp; done) | (simp [*]; done) | (simp [Int.tdiv_eq_ediv_of_nonneg, *]; done)), (by first | rfl | (simp; done) | (simp [*]; done) | (simp [Int.tdiv_eq_ediv_of_nonneg, *]; done)), H', ⟨Nat.le_refl _⟩, ⟨by repeat (first | (with_reducible first | exact HB.out | apply below_alloc | apply pw_below_drewN | apply below_drew1) | exact HB.out)⟩⟩
      case round =>
        clear H'
        try clear p2
        try clear c3
        try clear c3b0
        try clear p6
        try clear hcv6
        try clear p2
        obtain ⟨x4_2, x5_2, rfl, rfl, HA, HK2, HB⟩ := hrel
        cases gk with
        | zero => exact absurd HA.out (by simp [spec_l01Dec.l0])
        | succ k2 =>
          have H := HA.out
          clear HA
          simp only [spec_l01Dec.l0] at H
          by_cases c7 : x4_2 < 0
          · rw [if_pos c7] at H
            have c7b0 : decide (x4_2 < 0) = true := decide_eq_true c7
            clear c7
            obtain ⟨y110, hy110⟩ : ∃ y_ : List Int, y_ = (([(wrap64 (48 - (Int.tmod x4_2 10))) % 256] : List Int)) := ⟨_, rfl⟩
            replace H : (if (strOfNums y110).size + x5_2.size ≤ 9223372036854775807 then (spec_l01Dec.l0 k2 x3_1 (wrap64 (Int.tdiv x4_2 10)) ((strOfNums y110) ++ x5_2)) else (none)) = some r := by first | (rw [hy110]; with_reducible exact H) | (have H2_ := (Option.bind_some _ _).symm.trans H; rw [hy110]; with_reducible exact H2_) | (have H2_ := (Option.bind_some _ _).symm.trans H; with_reducible exact H2_) | with_reducible exact H | (rw [hy110]; exact H) | exact H
            have Ny110 := Aside0.mk hy110
            clear hy110
            by_cases c8 : (strOfNums y110).size + x5_2.size ≤ 9223372036854775807
            · rw [if_pos c8] at H
              have c8b0 := eq_true c8
              have c8b1 : decide ((strOfNums y110).size + x5_2.size ≤ 9223372036854775807) = true := decide_eq_true c8
              try have c8b2 : (9223372036854775807 < (strOfNums y110).size + x5_2.size) = False := eq_false (Nat.not_lt.2 c8)
              have H' := Aside0.mk H
              clear H
              go_wp2_with (first | ((with_reducible refine gate_dst (N := 27) rfl ?_); refine Kd.R_lit (Kd.int .u8) _ 5 ?hg (N := 27) ?hd (xs := ([(wrap64 (48 - (Int.tmod x4_2 10))) % 256] : List Int)) (inner := [.int .u8 ((wrap64 (48 - (Int.tmod x4_2 10))) % 256)]) (ok := fun _ => True) (okp := fun _ => True) ?hr ?hp (fun _ hk => hk) trivial (Below.refl _ _) (Nat.le_refl _) (by simp) ?_; (case hd => rfl); (case hg => rfl); (case hr => first | (go_simp; done) | (go_simp; rfl)); (case hp => exact (Reps.one (show Kd.M (Kd.int .u8) _ _ _ ((wrap64 (48 - (Int.tmod x4_2 10))) % 256) [.int .u8 ((wrap64 (48 - (Int.tmod x4_2 10))) % 256)] from rfl) (Reps.none _ _))); intro v111 w9 ho10 hb hg_ hnew_; clear hg_ hnew_; (first | rw [← Ny110.out] at ho10 | (simp only [Int.reduceToNat] at ho10; rw [← Ny110.out] at ho10)); have n0_ := Aside0.mk (Kd.R_lower ho10 (below_size (by repeat (first | (with_reducible first | exact HB.out | apply below_alloc | apply pw_below_drewN | apply below_drew1) | exact HB.out)))); have n1_ := Aside0.mk (below_step (by repeat (first | (with_reducible first | exact HB.out | apply below_alloc | apply pw_below_drewN | apply below_drew1) | exact HB.out)) hb); clear HB; have HO112 := n0_; have HB := n1_; clear n0_ n1_; clear hb ho10; have hcv11 := own_string (P := Tryd.prog) Tryd.underlying29 Tryd.underlying5 Tryd.underlying9 (Kd.own_of_R HO112.out)))
              go_roundg k2
              case measure => have := HJ1.out; have := HK2.out; omega
              case rel => exact ⟨(wrap64 (Int.tdiv x4_2 10)), ((strOfNums y110) ++ x5_2), (by first | rfl | (simp; done) | (simp [*]; done) | (simp [Int.tdiv_eq_ediv_of_nonneg, *]; done)), (by first | rfl | (simp; done) | (simp [*]; done) | (simp [Int.tdiv_eq_ediv_of_nonneg, *]; done)), H', ⟨by have := HJ1.out; have := HK2.out; omega⟩, ⟨by repeat (first | (with_reducible first | exact HB.out | apply below_alloc | apply pw_below_drewN | apply below_drew1) | exact HB.out)⟩⟩
            · rw [if_neg c8] at H
              exact absurd H (by simp)
          · rw [if_neg c7] at H
            have c7b0 : decide (x4_2 < 0) = false := decide_eq_false c7
            clear c7
            by_cases c12 : x3_1.size + x5_2.size ≤ 9223372036854775807
            · rw [if_pos c12] at H
              have c12b0 := eq_true c12
              have c12b1 : decide (x3_1.size + x5_2.size ≤ 9223372036854775807) = true := decide_eq_true c12
              try have c12b2 : (9223372036854775807 < x3_1.size + x5_2.size) = False := eq_false (Nat.not_lt.2 c12)
              obtain rfl := Option.some.inj H
              go_wp2
              go_ret
              exact ⟨by first | rfl | (simp [errW_none, errW_some] <;> rfl) | (simp [*, errW_none, errW_some] <;> rfl) | (simp [Int.tdiv_eq_ediv_of_nonneg, *]; done), by repeat (first | (with_reducible first | exact HB.out | apply below_alloc | apply pw_below_drewN | apply below_drew1) | exact HB.out)⟩
            · rw [if_neg c12] at H
              exact absurd H (by simp)

/-! ### spec_l07Text: function 18 -/
def spec_l07Text.f (k : Nat) (a0_0 : Int) (a0_1 : Int) (a0_2 : Int) : Option (ByteArray) := (spec_l01Dec.f k a0_0).bind fun t114 => (if 1 + t114.size ≤ 9223372036854775807 then (if ((⟨#[64]⟩ : ByteArray) ++ t114).size + 1 ≤ 9223372036854775807 then ((spec_l01Dec.f k a0_1).bind fun t115 => (if (((⟨#[64]⟩ : ByteArray) ++ t114) ++ (⟨#[32]⟩ : ByteArray)).size + t115.size ≤ 9223372036854775807 then (if ((((⟨#[64]⟩ : ByteArray) ++ t114) ++ (⟨#[32]⟩ : ByteArray)) ++ t115).size + 2 ≤ 9223372036854775807 then ((spec_l01Dec.f k a0_2).bind fun t116 => (if (((((⟨#[64]⟩ : ByteArray) ++ t114) ++ (⟨#[32]⟩ : ByteArray)) ++ t115) ++ (⟨#[108, 47]⟩ : ByteArray)).size + t116.size ≤ 9223372036854775807 then (some ((((((⟨#[64]⟩ : ByteArray) ++ t114) ++ (⟨#[32]⟩ : ByteArray)) ++ t115) ++ (⟨#[108, 47]⟩ : ByteArray)) ++ t116)) else (none))) else (none)) else (none))) else (none)) else (none))
theorem spec_l07Text.mono : ∀ a0 a1 a2 k, LeO (spec_l07Text.f k a0 a1 a2) (spec_l07Text.f (k + 1) a0 a1 a2) := by
  intro a0 a1 a2 k
  unfold spec_l07Text.f
  repeat' first
      | (with_reducible exact spec_l01Dec.mono _ _)
      | (with_reducible exact LeO.refl _)
      | (with_reducible exact LeO.none _)
      | (with_reducible refine LeO.ite ?_ ?_)
      | (with_reducible refine LeO.bind ?_ (fun _ => ?_))
      | exact spec_l01Dec.mono _ _
      | exact LeO.none _
      | refine LeO.ite ?_ ?_
      | refine LeO.bind ?_ (fun _ => ?_)
def spec_l07Text.T1 : Bool × List (List Nat × List Nat) := (true, [([], []), ([0], [0]), ([1], [1]), ([2], [2]), ([3], [3]), ([], []), ([5], [5]), ([6, 2], [6]), ([4, 7], [4, 7]), ([8], [8]), ([], []), ([10], [10]), ([11, 7], [11]), ([9, 12], [9, 12]), ([13, 12, 0, 1, 2, 3, 4, 5, 6, 7, 8, 9, 10, 11, 12, 13], [13])])
def spec_l07Text.B1 : List Nat := [0, 1, 3, 7, 15, 0, 32, 103, 255, 511, 0, 1024, 3303, 8191, 16383]
theorem spec_l07Text.tab1 : rtab .any (opsOf Tryd.f18 1) = spec_l07Text.T1 := by kernel_rfl
theorem spec_l07Text.bits1 : waitsOk spec_l07Text.T1.2 spec_l07Text.B1 = true := by kernel_rfl
set_option maxHeartbeats 8000000 in
set_option maxRecDepth 100000 in
theorem spec_l07Text.calls (k : Nat) (a0_0 : Int) (a0_1 : Int) (a0_2 : Int) (r : ByteArray) (w : World) (h : spec_l07Text.f k a0_0 a0_1 a0_2 = some r) :
    Calls Tryd.prog 18 #[.agg #[.int .i64 a0_0, .int .i64 a0_1, .int .i64 a0_2]] w fun e w' => e = .returned (.string r) ∧ Below w.heap.size w w' := by
  have hu26 := Tryd.underlying26
  have HB := Aside0.mk (Below.refl w.heap.size w)
  have H : ((spec_l01Dec.f k a0_0).bind fun t114 => (if 1 + t114.size ≤ 9223372036854775807 then (if ((⟨#[64]⟩ : ByteArray) ++ t114).size + 1 ≤ 9223372036854775807 then ((spec_l01Dec.f k a0_1).bind fun t115 => (if (((⟨#[64]⟩ : ByteArray) ++ t114) ++ (⟨#[32]⟩ : ByteArray)).size + t115.size ≤ 9223372036854775807 then (if ((((⟨#[64]⟩ : ByteArray) ++ t114) ++ (⟨#[32]⟩ : ByteArray)) ++ t115).size + 2 ≤ 9223372036854775807 then ((spec_l01Dec.f k a0_2).bind fun t116 => (if (((((⟨#[64]⟩ : ByteArray) ++ t114) ++ (⟨#[32]⟩ : ByteArray)) ++ t115) ++ (⟨#[108, 47]⟩ : ByteArray)).size + t116.size ≤ 9223372036854775807 then (some ((((((⟨#[64]⟩ : ByteArray) ++ t114) ++ (⟨#[32]⟩ : ByteArray)) ++ t115) ++ (⟨#[108, 47]⟩ : ByteArray)) ++ t116)) else (none))) else (none)) else (none))) else (none)) else (none))) = some r := h
  clear h
  replace H := Option.bind_eq_some_iff.mp H
  obtain ⟨t114, A20, H⟩ := H
  replace H : (if 1 + t114.size ≤ 9223372036854775807 then (if ((⟨#[64]⟩ : ByteArray) ++ t114).size + 1 ≤ 9223372036854775807 then ((spec_l01Dec.f k a0_1).bind fun t115 => (if (((⟨#[64]⟩ : ByteArray) ++ t114) ++ (⟨#[32]⟩ : ByteArray)).size + t115.size ≤ 9223372036854775807 then (if ((((⟨#[64]⟩ : ByteArray) ++ t114) ++ (⟨#[32]⟩ : ByteArray)) ++ t115).size + 2 ≤ 9223372036854775807 then ((spec_l01Dec.f k a0_2).bind fun t116 => (if (((((⟨#[64]⟩ : ByteArray) ++ t114) ++ (⟨#[32]⟩ : ByteArray)) ++ t115) ++ (⟨#[108, 47]⟩ : ByteArray)).size + t116.size ≤ 9223372036854775807 then (some ((((((⟨#[64]⟩ : ByteArray) ++ t114) ++ (⟨#[32]⟩ : ByteArray)) ++ t115) ++ (⟨#[108, 47]⟩ : ByteArray)) ++ t116)) else (none))) else (none)) else (none))) else (none)) else (none)) = some r := H
  have A2 := Aside0.mk A20
  clear A20
  by_cases c3 : 1 + t114.size ≤ 9223372036854775807
  · rw [if_pos c3] at H
    have c3b0 := eq_true c3
    have c3b1 : decide (1 + t114.size ≤ 9223372036854775807) = true := decide_eq_true c3
    try have c3b2 : (9223372036854775807 < 1 + t114.size) = False := eq_false (Nat.not_lt.2 c3)
    by_cases c4 : ((⟨#[64]⟩ : ByteArray) ++ t114).size + 1 ≤ 9223372036854775807
    · rw [if_pos c4] at H
      have c4b0 := eq_true c4
      have c4b1 : decide (((⟨#[64]⟩ : ByteArray) ++ t114).size + 1 ≤ 9223372036854775807) = true := decide_eq_true c4
      try have c4b2 : (9223372036854775807 < ((⟨#[64]⟩ : ByteArray) ++ t114).size + 1) = False := eq_false (Nat.not_lt.2 c4)
      try have c4b2z : (9223372036854775807 < 1 + t114.size + 1) = False := by have z_ := c4b2; simp only [ByteArray.size_append, Opn.bsz_, List.length_cons, List.length_nil, Nat.zero_add, Nat.reduceAdd] at z_ ⊢; with_reducible exact z_
      replace H := Option.bind_eq_some_iff.mp H
      obtain ⟨t115, A50, H⟩ := H
      replace H : (if (((⟨#[64]⟩ : ByteArray) ++ t114) ++ (⟨#[32]⟩ : ByteArray)).size + t115.size ≤ 9223372036854775807 then (if ((((⟨#[64]⟩ : ByteArray) ++ t114) ++ (⟨#[32]⟩ : ByteArray)) ++ t115).size + 2 ≤ 9223372036854775807 then ((spec_l01Dec.f k a0_2).bind fun t116 => (if (((((⟨#[64]⟩ : ByteArray) ++ t114) ++ (⟨#[32]⟩ : ByteArray)) ++ t115) ++ (⟨#[108, 47]⟩ : ByteArray)).size + t116.size ≤ 9223372036854775807 then (some ((((((⟨#[64]⟩ : ByteArray) ++ t114) ++ (⟨#[32]⟩ : ByteArray)) ++ t115) ++ (⟨#[108, 47]⟩ : ByteArray)) ++ t116)) else (none))) else (none)) else (none)) = some r := H
      have A5 := Aside0.mk A50
      clear A50
      by_cases c6 : (((⟨#[64]⟩ : ByteArray) ++ t114) ++ (⟨#[32]⟩ : ByteArray)).size + t115.size ≤ 9223372036854775807
      · rw [if_pos c6] at H
        have c6b0 := eq_true c6
        have c6b1 : decide ((((⟨#[64]⟩ : ByteArray) ++ t114) ++ (⟨#[32]⟩ : ByteArray)).size + t115.size ≤ 9223372036854775807) = true := decide_eq_true c6
        try have c6b2 : (9223372036854775807 < (((⟨#[64]⟩ : ByteArray) ++ t114) ++ (⟨#[32]⟩ : ByteArray)).size + t115.size) = False := eq_false (Nat.not_lt.2 c6)
        try have c6b2z : (9223372036854775807 < 1 + t114.size + 1 + t115.size) = False := by have z_ := c6b2; simp only [ByteArray.size_append, Opn.bsz_, List.length_cons, List.length_nil, Nat.zero_add, Nat.reduceAdd] at z_ ⊢; with_reducible exact z_
        by_cases c7 : ((((⟨#[64]⟩ : ByteArray) ++ t114) ++ (⟨#[32]⟩ : ByteArray)) ++ t115).size + 2 ≤ 9223372036854775807
        · rw [if_pos c7] at H
          have c7b0 := eq_true c7
          have c7b1 : decide (((((⟨#[64]⟩ : ByteArray) ++ t114) ++ (⟨#[32]⟩ : ByteArray)) ++ t115).size + 2 ≤ 9223372036854775807) = true := decide_eq_true c7
          try have c7b2 : (9223372036854775807 < ((((⟨#[64]⟩ : ByteArray) ++ t114) ++ (⟨#[32]⟩ : ByteArray)) ++ t115).size + 2) = False := eq_false (Nat.not_lt.2 c7)
          try have c7b2z : (9223372036854775807 < 1 + t114.size + 1 + t115.size + 2) = False := by have z_ := c7b2; simp only [ByteArray.size_append, Opn.bsz_, List.length_cons, List.length_nil, Nat.zero_add, Nat.reduceAdd] at z_ ⊢; with_reducible exact z_
          replace H := Option.bind_eq_some_iff.mp H
          obtain ⟨t116, A80, H⟩ := H
          replace H : (if (((((⟨#[64]⟩ : ByteArray) ++ t114) ++ (⟨#[32]⟩ : ByteArray)) ++ t115) ++ (⟨#[108, 47]⟩ : ByteArray)).size + t116.size ≤ 9223372036854775807 then (some ((((((⟨#[64]⟩ : ByteArray) ++ t114) ++ (⟨#[32]⟩ : ByteArray)) ++ t115) ++ (⟨#[108, 47]⟩ : ByteArray)) ++ t116)) else (none)) = some r := H
          have A8 := Aside0.mk A80
          clear A80
          by_cases c9 : (((((⟨#[64]⟩ : ByteArray) ++ t114) ++ (⟨#[32]⟩ : ByteArray)) ++ t115) ++ (⟨#[108, 47]⟩ : ByteArray)).size + t116.size ≤ 9223372036854775807
          · rw [if_pos c9] at H
            have c9b0 := eq_true c9
            have c9b1 : decide ((((((⟨#[64]⟩ : ByteArray) ++ t114) ++ (⟨#[32]⟩ : ByteArray)) ++ t115) ++ (⟨#[108, 47]⟩ : ByteArray)).size + t116.size ≤ 9223372036854775807) = true := decide_eq_true c9
            try have c9b2 : (9223372036854775807 < (((((⟨#[64]⟩ : ByteArray) ++ t114) ++ (⟨#[32]⟩ : ByteArray)) ++ t115) ++ (⟨#[108, 47]⟩ : ByteArray)).size + t116.size) = False := eq_false (Nat.not_lt.2 c9)
            try have c9b2z : (9223372036854775807 < 1 + t114.size + 1 + t115.size + 2 + t116.size) = False := by have z_ := c9b2; simp only [ByteArray.size_append, Opn.bsz_, List.length_cons, List.length_nil, Nat.zero_add, Nat.reduceAdd] at z_ ⊢; with_reducible exact z_
            obtain rfl := Option.some.inj H
            go_enter Tryd.func18, Tryd.ntmps18
            try go_wp2_with (first | ((with_reducible refine gate_dst (N := 1) rfl ?_); refine box_event ?hg (N := 1) ?hd (cs := #[.int .i64 a0_0, .int .i64 a0_1, .int .i64 a0_2]) (t := 26) ?hr ?_; (case hd => rfl); (case hg => rfl); (case hr => first | (go_simp; done) | (go_simp; rfl)); intro gb113 hg w10 hbox hb; have n0_ := Aside0.mk (below_step (by repeat (first | (with_reducible first | exact HB.out | apply below_alloc | apply pw_below_drewN | apply below_drew1) | exact HB.out)) hb); have n1_ := Aside0.mk (hbox); have n2_ := Aside0.mk ((by rw [hg]; exact (below_size (by repeat (first | (with_reducible first | exact HB.out | apply below_alloc | apply pw_below_drewN | apply below_drew1) | exact HB.out))) : w.heap.size ≤ gb113)); have n3_ := Aside0.mk ((by rw [hg]; exact (below_size (by repeat (first | (with_reducible first | exact HB.out | apply below_alloc | apply pw_below_drewN | apply below_drew1) | exact HB.out))) : w.heap.size ≤ gb113)); clear HB; have HB := n0_; have BK113 := n1_; have GW113 := n2_; have GE113 := n3_; clear n0_ n1_ n2_ n3_; clear hb hbox hg))
            have n0_ := Aside0.mk (blk_drew BK113.out)
            have n1_ := Aside0.mk (below_drew1 HB.out)
            clear BK113
            clear HB
            have BK113 := n0_
            have HB := n1_
            clear n0_ n1_
            refine start_ (n := 15) (S := fun w' => w'.cell? ⟨gb113, 0, none⟩ = some (.int .i64 a0_0) ∧ w'.cell? ⟨gb113, 1, none⟩ = some (.int .i64 a0_1) ∧ w'.cell? ⟨gb113, 2, none⟩ = some (.int .i64 a0_2)) (ds := []) #[false, false, false, false, false, false, false, false, false, false, false, false, false, false, false] (by kernel_rfl) rfl rfl ⟨(blk_cell BK113.out 0).trans rfl, (blk_cell BK113.out 1).trans rfl, (blk_cell BK113.out 2).trans rfl⟩ (fun hHeld => ?_); refine with_tabW spec_l07Text.tab1 spec_l07Text.bits1 (fun HT_ HW_ => ?_)
            generalize w10.drew = w11 at BK113 HB hHeld ⊢
            refine pure_ (i := 0) (N := some 3) (v := ?_) (a' := ?_) #[true, false, false, false, false, false, false, false, false, false, false, false, false, false, false] rfl rfl (any_of HT_.out (by kernel_rfl)) (fun _ _ _ h => h) (Or.inl ⟨by rfl, ?_⟩) ?_ ?_
            rotate_left
            · intro w'
              go_simp
              with_reducible rfl
            rotate_left
            · simp only [Act.put, List.setIfInBounds_toArray, List.set_cons_zero, List.set_cons_succ, i64_w, i32_w]
              rfl
            refine pure_ (i := 5) (N := some 8) (v := ?_) (a' := ?_) #[true, false, false, false, false, true, false, false, false, false, false, false, false, false, false] rfl rfl (any_of HT_.out (by kernel_rfl)) (fun _ _ _ h => h) (Or.inl ⟨by rfl, ?_⟩) ?_ ?_
            rotate_left
            · intro w'
              go_simp
              with_reducible rfl
            rotate_left
            · simp only [Act.put, List.setIfInBounds_toArray, List.set_cons_zero, List.set_cons_succ, i64_w, i32_w]
              rfl
            refine pure_ (i := 10) (N := some 13) (v := ?_) (a' := ?_) #[true, false, false, false, false, true, false, false, false, false, true, false, false, false, false] rfl rfl (any_of HT_.out (by kernel_rfl)) (fun _ _ _ h => h) (Or.inl ⟨by rfl, ?_⟩) ?_ ?_
            rotate_left
            · intro w'
              go_simp
              with_reducible rfl
            rotate_left
            · simp only [Act.put, List.setIfInBounds_toArray, List.set_cons_zero, List.set_cons_succ, i64_w, i32_w]
              rfl
            refine take_ (i := 1) (N := some 4) (v := ?_) (a' := ?_) #[true, true, false, false, false, true, false, false, false, false, true, false, false, false, false] rfl rfl (take_ofW HT_.out HW_.out (by kernel_rfl)) (fun _ _ _ h => h) (Or.inl ⟨by rfl, ?_⟩) hHeld ?_ ?_
            rotate_left
            · rintro w' ⟨s0, s1, s2⟩
              go_simp
              with_reducible rfl
            rotate_left
            · simp only [Act.put, List.setIfInBounds_toArray, List.set_cons_zero, List.set_cons_succ, i64_w, i32_w]
              rfl
            refine take_ (i := 6) (N := some 9) (v := ?_) (a' := ?_) #[true, true, false, false, false, true, true, false, false, false, true, false, false, false, false] rfl rfl (take_ofW HT_.out HW_.out (by kernel_rfl)) (fun _ _ _ h => h) (Or.inl ⟨by rfl, ?_⟩) hHeld ?_ ?_
            rotate_left
            · rintro w' ⟨s0, s1, s2⟩
              go_simp
              with_reducible rfl
            rotate_left
            · simp only [Act.put, List.setIfInBounds_toArray, List.set_cons_zero, List.set_cons_succ, i64_w, i32_w]
              rfl
            refine take_ (i := 11) (N := some 14) (v := ?_) (a' := ?_) #[true, true, false, false, false, true, true, false, false, false, true, true, false, false, false] rfl rfl (take_ofW HT_.out HW_.out (by kernel_rfl)) (fun _ _ _ h => h) (Or.inl ⟨by rfl, ?_⟩) hHeld ?_ ?_
            rotate_left
            · rintro w' ⟨s0, s1, s2⟩
              go_simp
              with_reducible rfl
            rotate_left
            · simp only [Act.put, List.setIfInBounds_toArray, List.set_cons_zero, List.set_cons_succ, i64_w, i32_w]
              rfl
            refine one_ (i := 2) (N := some 5) #[true, true, true, false, false, true, true, false, false, false, true, true, false, false, false] rfl rfl (one_of HT_.out (by kernel_rfl)) (by decide) (fun K hK => ?_)
            refine goes_ Tryd.func31 (by kernel_rfl) rfl #[.int .i64 a0_0] (by rfl) rfl rfl (by (try simp only [List.map_toArray, List.map_cons, List.map_nil]); first | done | rfl | (simp only [List.length_drop, List.length_take]; rfl)) ?_
            with_reducible refine (spec_l01Dec.calls k a0_0 t114 _ A2.out).mono ?_
            rintro e w12 ⟨rfl, hb⟩
            refine ⟨_, rfl, ?_⟩
            have n0_ := Aside0.mk (blk_below (g := gb113) (o := .cells #[.int .i64 a0_0, .int .i64 a0_1, .int .i64 a0_2] 26 (0, 0)) (by (with_reducible repeat (first | refine blk_drewN ?_ _ | refine blk_drew ?_ | refine blk_alloc ?_ _)); exact BK113.out) hb)
            have n1_ := Aside0.mk (below_step (by repeat (first | (with_reducible first | exact HB.out | apply below_alloc | apply pw_below_drewN | apply below_drew1 | refine below_set ?_ GE113.out) | exact HB.out)) hb)
            clear BK113
            clear HB
            have BK113 := n0_
            have HB := n1_
            clear n0_ n1_
            (try clear hb)
            (try clear hb2)
            (try clear hk)
            (try clear hi)
            refine hK.out _ _ ⟨(blk_cell BK113.out 0).trans rfl, (blk_cell BK113.out 1).trans rfl, (blk_cell BK113.out 2).trans rfl⟩ (fun hHeld => ?_)
            clear hK K
            refine norm_ (a' := ?_) ?_ ?_
            rotate_left
            · show Act.put _ (some 5) _ = _
              simp only [Act.put, List.setIfInBounds_toArray, List.set_cons_zero, List.set_cons_succ, i64_w, i32_w]
              rfl
            refine pure_ (i := 3) (N := some 6) (v := ?_) (a' := ?_) #[true, true, true, true, false, true, true, false, false, false, true, true, false, false, false] rfl rfl (any_of HT_.out (by kernel_rfl)) (fun _ _ _ h => h) (Or.inl ⟨by rfl, ?_⟩) ?_ ?_
            rotate_left
            · intro w'
              go_simp
              with_reducible rfl
            rotate_left
            · simp only [Act.put, List.setIfInBounds_toArray, List.set_cons_zero, List.set_cons_succ, i64_w, i32_w]
              rfl
            refine pure_ (i := 4) (N := some 7) (v := ?_) (a' := ?_) #[true, true, true, true, true, true, true, false, false, false, true, true, false, false, false] rfl rfl (any_of HT_.out (by kernel_rfl)) (fun _ _ _ h => h) (Or.inl ⟨by rfl, ?_⟩) ?_ ?_
            rotate_left
            · intro w'
              go_simp
              with_reducible rfl
            rotate_left
            · simp only [Act.put, List.setIfInBounds_toArray, List.set_cons_zero, List.set_cons_succ, i64_w, i32_w]
              rfl
            refine one_ (i := 7) (N := some 10) #[true, true, true, true, true, true, true, true, false, false, true, true, false, false, false] rfl rfl (one_of HT_.out (by kernel_rfl)) (by decide) (fun K hK => ?_)
            refine goes_ Tryd.func31 (by kernel_rfl) rfl #[.int .i64 a0_1] (by rfl) rfl rfl (by (try simp only [List.map_toArray, List.map_cons, List.map_nil]); first | done | rfl | (simp only [List.length_drop, List.length_take]; rfl)) ?_
            with_reducible refine (spec_l01Dec.calls k a0_1 t115 _ A5.out).mono ?_
            rintro e w13 ⟨rfl, hb⟩
            refine ⟨_, rfl, ?_⟩
            have n0_ := Aside0.mk (blk_below (g := gb113) (o := .cells #[.int .i64 a0_0, .int .i64 a0_1, .int .i64 a0_2] 26 (0, 0)) (by (with_reducible repeat (first | refine blk_drewN ?_ _ | refine blk_drew ?_ | refine blk_alloc ?_ _)); exact BK113.out) hb)
            have n1_ := Aside0.mk (below_step (by repeat (first | (with_reducible first | exact HB.out | apply below_alloc | apply pw_below_drewN | apply below_drew1 | refine below_set ?_ GE113.out) | exact HB.out)) hb)
            clear BK113
            clear HB
            have BK113 := n0_
            have HB := n1_
            clear n0_ n1_
            (try clear hb)
            (try clear hb2)
            (try clear hk)
            (try clear hi)
            refine hK.out _ _ ⟨(blk_cell BK113.out 0).trans rfl, (blk_cell BK113.out 1).trans rfl, (blk_cell BK113.out 2).trans rfl⟩ (fun hHeld => ?_)
            clear hK K
            refine norm_ (a' := ?_) ?_ ?_
            rotate_left
            · show Act.put _ (some 10) _ = _
              simp only [Act.put, List.setIfInBounds_toArray, List.set_cons_zero, List.set_cons_succ, i64_w, i32_w]
              rfl
            refine pure_ (i := 8) (N := some 11) (v := ?_) (a' := ?_) #[true, true, true, true, true, true, true, true, true, false, true, true, false, false, false] rfl rfl (any_of HT_.out (by kernel_rfl)) (fun _ _ _ h => h) (Or.inl ⟨by rfl, ?_⟩) ?_ ?_
            rotate_left
            · intro w'
              go_simp
              with_reducible rfl
            rotate_left
            · simp only [Act.put, List.setIfInBounds_toArray, List.set_cons_zero, List.set_cons_succ, i64_w, i32_w]
              rfl
            refine pure_ (i := 9) (N := some 12) (v := ?_) (a' := ?_) #[true, true, true, true, true, true, true, true, true, true, true, true, false, false, false] rfl rfl (any_of HT_.out (by kernel_rfl)) (fun _ _ _ h => h) (Or.inl ⟨by rfl, ?_⟩) ?_ ?_
            rotate_left
            · intro w'
              go_simp
              with_reducible rfl
            rotate_left
            · simp only [Act.put, List.setIfInBounds_toArray, List.set_cons_zero, List.set_cons_succ, i64_w, i32_w]
              rfl
            refine one_ (i := 12) (N := some 15) #[true, true, true, true, true, true, true, true, true, true, true, true, true, false, false] rfl rfl (one_of HT_.out (by kernel_rfl)) (by decide) (fun K hK => ?_)
            refine goes_ Tryd.func31 (by kernel_rfl) rfl #[.int .i64 a0_2] (by rfl) rfl rfl (by (try simp only [List.map_toArray, List.map_cons, List.map_nil]); first | done | rfl | (simp only [List.length_drop, List.length_take]; rfl)) ?_
            with_reducible refine (spec_l01Dec.calls k a0_2 t116 _ A8.out).mono ?_
            rintro e w14 ⟨rfl, hb⟩
            refine ⟨_, rfl, ?_⟩
            have n0_ := Aside0.mk (blk_below (g := gb113) (o := .cells #[.int .i64 a0_0, .int .i64 a0_1, .int .i64 a0_2] 26 (0, 0)) (by (with_reducible repeat (first | refine blk_drewN ?_ _ | refine blk_drew ?_ | refine blk_alloc ?_ _)); exact BK113.out) hb)
            have n1_ := Aside0.mk (below_step (by repeat (first | (with_reducible first | exact HB.out | apply below_alloc | apply pw_below_drewN | apply below_drew1 | refine below_set ?_ GE113.out) | exact HB.out)) hb)
            clear BK113
            clear HB
            have BK113 := n0_
            have HB := n1_
            clear n0_ n1_
            (try clear hb)
            (try clear hb2)
            (try clear hk)
            (try clear hi)
            refine hK.out _ _ ⟨(blk_cell BK113.out 0).trans rfl, (blk_cell BK113.out 1).trans rfl, (blk_cell BK113.out 2).trans rfl⟩ (fun hHeld => ?_)
            clear hK K
            refine norm_ (a' := ?_) ?_ ?_
            rotate_left
            · show Act.put _ (some 15) _ = _
              simp only [Act.put, List.setIfInBounds_toArray, List.set_cons_zero, List.set_cons_succ, i64_w, i32_w]
              rfl
            refine pure_ (i := 13) (N := some 16) (v := ?_) (a' := ?_) #[true, true, true, true, true, true, true, true, true, true, true, true, true, true, false] rfl rfl (any_of HT_.out (by kernel_rfl)) (fun _ _ _ h => h) (Or.inl ⟨by rfl, ?_⟩) ?_ ?_
            rotate_left
            · intro w'
              go_simp
              with_reducible rfl
            rotate_left
            · simp only [Act.put, List.setIfInBounds_toArray, List.set_cons_zero, List.set_cons_succ, i64_w, i32_w]
              rfl
            refine pure_ (i := 14) (N := some 2) (v := ?_) (a' := ?_) #[true, true, true, true, true, true, true, true, true, true, true, true, true, true, true] rfl rfl (any_of HT_.out (by kernel_rfl)) (fun _ _ _ h => h) (Or.inl ⟨by rfl, ?_⟩) ?_ ?_
            rotate_left
            · intro w'
              go_simp
              with_reducible rfl
            rotate_left
            · simp only [Act.put, List.setIfInBounds_toArray, List.set_cons_zero, List.set_cons_succ, i64_w, i32_w]
              rfl
            refine done_ (done_of HT_.out (by kernel_rfl)) ?_
            try go_wp2
            go_ret
            exact ⟨by first | rfl | (simp [errW_none, errW_some] <;> rfl) | (simp [*, errW_none, errW_some] <;> rfl) | (simp [Int.tdiv_eq_ediv_of_nonneg, *]; done), by repeat (first | (with_reducible first | exact HB.out | apply below_alloc | apply pw_below_drewN | apply below_drew1 | refine below_set ?_ GE113.out) | exact HB.out)⟩
          · rw [if_neg c9] at H
            exact absurd H (by simp)
        · rw [if_neg c7] at H
          exact absurd H (by simp)
      · rw [if_neg c6] at H
        exact absurd H (by simp)
    · rw [if_neg c4] at H
      exact absurd H (by simp)
  · rw [if_neg c3] at H
    exact absurd H (by simp)

end Go.Proofs.YtegjebiocgbmpaaDoor.P
/- The reference's decimal numeral is the library's. -/
namespace Go.Proofs.YtegjebiocgbmpaaDoor.P
open Go.RowKit Go.Proofs.YtegjebiocgbmpaaDoor.P Go.Proofs.YtegjebiocgbmpaaDoorW.PrintWords Go.Proofs.YtegjebiocgbmpaaDoorW.PrintLast Go.Proofs.YtegjebiocgbmpaaDoorW.PrintMore
set_option linter.unusedVariables false
set_option linter.unusedSimpArgs false
def tx (l : List UInt8) : ByteArray := ⟨l.toArray⟩
theorem tx_app (a b : List UInt8) : tx a ++ tx b = tx (a ++ b) := by
  apply ByteArray.ext
  rw [ByteArray.data_append]
  simp [tx]
theorem tx_size (l : List UInt8) : (tx l).size = l.length := by
  show l.toArray.size = l.length
  simp
theorem tx_inj {a b : List UInt8} (h : tx a = tx b) : a = b := by
  have := congrArg (fun z : ByteArray => z.data.toList) h
  simpa [tx] using this
theorem tx_of (b : ByteArray) : tx b.data.toList = b := by
  apply ByteArray.ext
  simp [tx]
theorem tx_data (l : List UInt8) : (tx l).data.toList = l := by simp [tx]
def dd (n : Int) : ByteArray := tx (Lib.itoa n)
theorem dd_size (n : Int) (h : -9223372036854775808 ≤ n ∧ n ≤ 9223372036854775807) : (dd n).size ≤ 21 := by
  unfold dd
  rw [tx_size]
  exact Lib.itoa_length_le n h.1 h.2
theorem dig_is (m : Nat) (hm : m < 18446744073709551616) : strOfNums [(wrap64 (48 - (Int.tmod (-(m : Int)) 10))) % 256] = tx [UInt8.ofNat (48 + m % 10)] := by
  have e : Int.tmod (-(m : Int)) 10 = -((m % 10 : Nat) : Int) := by
    rw [Int.neg_tmod]
    rfl
  have hlt := Nat.mod_lt m (show 0 < 10 by decide)
  rw [e, w64 _ (by omega) (by omega)]
  unfold strOfNums tx
  simp only [List.map_cons, List.map_nil]
  rw [show ((48 - -((m % 10 : Nat) : Int)) % 256).toNat = 48 + m % 10 by omega]
theorem tdiv_is (m : Nat) (hm : m ≤ 9223372036854775808) : wrap64 (Int.tdiv (-(m : Int)) 10) = -((m / 10 : Nat) : Int) := by
  have e : Int.tdiv (-(m : Int)) 10 = -((m / 10 : Nat) : Int) := by
    rw [Int.neg_tdiv]
    rfl
  rw [e, w64 _ (by omega) (by omega)]
theorem decDigits_low {m : Nat} (h : m < 10) : Lib.decDigits m = [UInt8.ofNat (48 + m % 10)] := by
  rw [Lib.decDigits_one h, Nat.mod_eq_of_lt h]
theorem decDigits_more {m : Nat} (h : ¬ m < 10) : Lib.decDigits m = Lib.decDigits (m / 10) ++ [UInt8.ofNat (48 + m % 10)] := by
  rw [Lib.decDigits, dif_neg h]
theorem dec_l0 (x : ByteArray) (hx : x.size ≤ 1000) : ∀ (d k m : Nat) (acc : List UInt8), m < 10 ^ d → m ≤ 9223372036854775808 → d < k → acc.length + d ≤ 1000 → spec_l01Dec.l0 k x (-(m : Int)) (tx acc) = some (x ++ tx ((if m = 0 then [] else Lib.decDigits m) ++ acc)) := by
  intro d
  induction d with
  | zero =>
    intro k m acc hm _ hk ha
    obtain ⟨k, rfl⟩ : ∃ q, k = q + 1 := ⟨k - 1, by omega⟩
    have : m = 0 := by simp at hm; omega
    subst this
    simp only [spec_l01Dec.l0]
    rw [if_neg (by omega), tx_size, if_pos (by omega)]
    simp
  | succ d ih =>
    intro k m acc hm hb hk ha
    obtain ⟨k, rfl⟩ : ∃ q, k = q + 1 := ⟨k - 1, by omega⟩
    simp only [spec_l01Dec.l0]
    by_cases h0 : m = 0
    · subst h0
      rw [if_neg (by omega), tx_size, if_pos (by omega)]
      simp
    · rw [if_pos (by omega), bind_some_, dig_is m (by omega), tx_size, tx_size, if_pos (by simp only [List.length_cons, List.length_nil]; omega), tdiv_is m hb, tx_app, ih k (m / 10) _ (by rw [Nat.pow_succ] at hm; omega) (by omega) (by omega) (by simp only [List.length_append, List.length_cons, List.length_nil]; omega), if_neg h0]
      by_cases h1 : m < 10
      · rw [if_pos (by omega), decDigits_low h1, List.nil_append]
      · rw [if_neg (by omega), decDigits_more h1, List.append_assoc]
theorem dec_j0 (x : ByteArray) (hx : x.size ≤ 1000) (k m : Nat) (hm : m ≤ 9223372036854775808) (hk : 30 < k) : spec_l01Dec.j0 k x (-(m : Int)) = some (x ++ tx (Lib.decDigits m)) := by
  obtain ⟨k, rfl⟩ : ∃ q, k = q + 1 := ⟨k - 1, by omega⟩
  simp only [spec_l01Dec.j0]
  rw [dig_is m (by omega), tdiv_is m hm, dec_l0 x hx 20 k (m / 10) _ (by omega) (by omega) (by omega) (by simp)]
  by_cases h1 : m < 10
  · rw [if_pos (by omega), decDigits_low h1, List.nil_append]
  · rw [if_neg (by omega), decDigits_more h1]
theorem specDec_is (k : Nat) (n : Int) (hn : -9223372036854775808 ≤ n ∧ n ≤ 9223372036854775807) (hk : 30 < k) : spec_l01Dec.f k n = some (dd n) := by
  unfold spec_l01Dec.f dd Lib.itoa
  by_cases h : n < 0
  · obtain ⟨m, e⟩ : ∃ m : Nat, n = -(m : Int) := ⟨n.natAbs, by omega⟩
    subst e
    rw [if_pos h, dec_j0 _ (by decide) k m (by omega) hk, if_pos h, show (-(m : Int)).natAbs = m by omega, show (⟨#[45]⟩ : ByteArray) = tx [45] from rfl, tx_app]
    rfl
  · obtain ⟨m, e⟩ : ∃ m : Nat, n = (m : Int) := ⟨n.toNat, by omega⟩
    subst e
    rw [if_neg h, w64 _ (by omega) (by omega), dec_j0 _ (by decide) k m (by omega) hk, if_neg h, Int.toNat_natCast, show (⟨#[]⟩ : ByteArray) = tx [] from rfl, tx_app, List.nil_append]
theorem implDec_is (n : Int) (hn : -9223372036854775808 ≤ n ∧ n ≤ 9223372036854775807) : impl_Decimal.f n = some (dd n) := by
  unfold impl_Decimal.f
  rw [if_pos hn]
  rfl
theorem lit1 (x : UInt8) : (⟨#[x]⟩ : ByteArray) = tx [x] := rfl
theorem lit2 (x y : UInt8) : (⟨#[x, y]⟩ : ByteArray) = tx [x, y] := rfl
theorem lit0 : (⟨#[]⟩ : ByteArray) = tx [] := rfl

end Go.Proofs.YtegjebiocgbmpaaDoor.P
/- The text of a loss, as both sides write it. -/
namespace Go.Proofs.YtegjebiocgbmpaaDoor.P
open Go.RowKit Go.Proofs.YtegjebiocgbmpaaDoor.P Go.Proofs.YtegjebiocgbmpaaDoorW.PrintWords Go.Proofs.YtegjebiocgbmpaaDoorW.PrintLast Go.Proofs.YtegjebiocgbmpaaDoorW.PrintMore
set_option linter.unusedVariables false
set_option linter.unusedSimpArgs false
def lossT (a b c : Int) : ByteArray := (((((⟨#[64]⟩ : ByteArray) ++ dd a) ++ (⟨#[32]⟩ : ByteArray)) ++ dd b) ++ (⟨#[108, 47]⟩ : ByteArray)) ++ dd c
def i64R (n : Int) : Prop := -9223372036854775808 ≤ n ∧ n ≤ 9223372036854775807
theorem sz1 (x : UInt8) : (⟨#[x]⟩ : ByteArray).size = 1 := rfl
theorem sz2 (x y : UInt8) : (⟨#[x, y]⟩ : ByteArray).size = 2 := rfl
theorem specLossT_is (k : Nat) (a b c : Int) (ha : i64R a) (hb : i64R b) (hc : i64R c) (hk : 30 < k) : spec_l07Text.f k a b c = some (lossT a b c) := by
  have h1 := dd_size a ha
  have h2 := dd_size b hb
  have h3 := dd_size c hc
  unfold spec_l07Text.f
  rw [specDec_is k a ha hk, bind_some_, if_pos (by omega), if_pos (by simp only [ByteArray.size_append, sz1]; omega), specDec_is k b hb hk, bind_some_, if_pos (by simp only [ByteArray.size_append, sz1]; omega), if_pos (by simp only [ByteArray.size_append, sz1]; omega), specDec_is k c hc hk, bind_some_, if_pos (by simp only [ByteArray.size_append, sz1, sz2]; omega)]
  rfl
theorem implLossT_is (k : Nat) (a b c : Int) (ha : i64R a) (hb : i64R b) (hc : i64R c) (hk : 10 < k) : impl_LossText.f k a b c = some (if lsValid [⟨a, b, c⟩] = true then (lossT a b c, true) else (⟨#[]⟩, false)) := by
  have h1 := dd_size a ha
  have h2 := dd_size b hb
  have h3 := dd_size c hc
  unfold impl_LossText.f
  rw [implLosses_is k _ (by simp) (by simp; omega), bind_some_]
  by_cases hv : lsValid [⟨a, b, c⟩] = true
  · rw [if_pos hv, if_pos hv, implDec_is a ha, bind_some_, if_pos (by omega), if_pos (by simp only [ByteArray.size_append, sz1]; omega), implDec_is b hb, bind_some_, if_pos (by simp only [ByteArray.size_append, sz1]; omega), if_pos (by simp only [ByteArray.size_append, sz1]; omega), implDec_is c hc, bind_some_, if_pos (by simp only [ByteArray.size_append, sz1, sz2]; omega)]
    rfl
  · rw [if_neg hv, if_neg hv]

end Go.Proofs.YtegjebiocgbmpaaDoor.P
/- What is asked of a settled list. -/
namespace Go.Proofs.YtegjebiocgbmpaaDoor.P
open Go.RowKit Go.Proofs.YtegjebiocgbmpaaDoor.P Go.Proofs.YtegjebiocgbmpaaDoorW.PrintWords Go.Proofs.YtegjebiocgbmpaaDoorW.PrintLast Go.Proofs.YtegjebiocgbmpaaDoorW.PrintMore
set_option linter.unusedVariables false
set_option linter.unusedSimpArgs false
def stOk (l : List Int) : Bool := (l.all fun n => decide (0 ≤ n ∧ n ≤ 2000000)) && decide ((l.length : Int) = 24)
theorem stOk_len {l : List Int} (h : stOk l = true) : l.length = 24 := by
  unfold stOk at h
  simp only [Bool.and_eq_true, decide_eq_true_eq] at h
  omega
theorem stOk_in {l : List Int} (h : stOk l = true) (i : Nat) (hi : i < l.length) : 0 ≤ rd l i ∧ rd l i ≤ 2000000 := by
  unfold stOk at h
  simp only [Bool.and_eq_true, List.all_eq_true, decide_eq_true_eq] at h
  rw [rd_at l i hi]
  exact h.1 _ (List.getElem_mem hi)

end Go.Proofs.YtegjebiocgbmpaaDoor.P
/- The parts of a trough add up to its volume, none is negative, and opposite parts differ by at most 1. -/
namespace Go.Proofs.YtegjebiocgbmpaaDoor.P
open Go.RowKit Go.Proofs.YtegjebiocgbmpaaDoor.P Go.Proofs.YtegjebiocgbmpaaDoorW.PrintWords Go.Proofs.YtegjebiocgbmpaaDoorW.PrintLast Go.Proofs.YtegjebiocgbmpaaDoorW.PrintMore
set_option linter.unusedVariables false
set_option linter.unusedSimpArgs false
def tPre : List Int → Nat → Int
  | _, 0 => 0
  | [], _ => 0
  | x :: xs, n + 1 => x + tPre xs n
theorem tParts_rd (v all : Int) : ∀ (l : List Int) (s : Int) (i : Nat), i < l.length → rd (tParts v all s l) i = v * (s + tPre l (i + 1)) / all - v * (s + tPre l i) / all
  | [], _, i, h => by simp at h
  | x :: xs, s, 0, _ => by
    show (v * (s + x) / all - v * s / all) = _
    simp [tPre]
  | x :: xs, s, i + 1, h => by
    have h2 : i < xs.length := by simpa using h
    have ih := tParts_rd v all xs (s + x) i h2
    have e : rd (tParts v all s (x :: xs)) ((i + 1 : Nat) : Int) = rd (tParts v all (s + x) xs) (i : Int) := by
      rw [rd_at _ (i + 1) (by rw [tParts_len]; exact h), rd_at _ i (by rw [tParts_len]; exact h2)]
      rfl
    rw [e, ih]
    simp only [tPre, Int.add_assoc]
theorem trough_rd (v : Int) (w i : Nat) (hw : w ≤ 5) (hi : i < 2 * w + 1) : rd (trough v w) i = v * tPre (tRow w) (i + 1) / tAll w - v * tPre (tRow w) i / tAll w := by
  have := tParts_rd v (tAll w) (tRow w) 0 i (by rw [tRow_len w hw]; exact hi)
  simpa [trough] using this
theorem tPre_facts (w i : Nat) (hw : w ≤ 5) (hi : i < 2 * w + 2) : (0 ≤ tPre (tRow w) i ∧ tPre (tRow w) i ≤ 1024) ∧ tPre (tRow w) i ≤ tPre (tRow w) (i + 1) ∧ tPre (tRow w) (2 * w + 1 - i) = tAll w - tPre (tRow w) i := by
  have : ∀ w, w < 6 → ∀ i, i < 12 → i < 2 * w + 2 → (0 ≤ tPre (tRow w) i ∧ tPre (tRow w) i ≤ 1024) ∧ tPre (tRow w) i ≤ tPre (tRow w) (i + 1) ∧ tPre (tRow w) (2 * w + 1 - i) = tAll w - tPre (tRow w) i := by decide +kernel
  exact this w (by omega) i (by omega) hi
theorem div_sym (w : Nat) (hw : w ≤ 5) (v X Y : Int) (h : X ≤ Y) : 0 ≤ Y / tAll w - X / tAll w ∧ -1 ≤ (Y / tAll w - X / tAll w) - ((v * tAll w - X) / tAll w - (v * tAll w - Y) / tAll w) ∧ (Y / tAll w - X / tAll w) - ((v * tAll w - X) / tAll w - (v * tAll w - Y) / tAll w) ≤ 1 := by
  rcases w with _ | _ | _ | _ | _ | _ | w
  · simp only [tAll]; omega
  · simp only [tAll]; omega
  · simp only [tAll]; omega
  · simp only [tAll]; omega
  · simp only [tAll]; omega
  · simp only [tAll]; omega
  · omega
theorem trough_part (v : Int) (w i : Nat) (hv : 0 ≤ v ∧ v ≤ 100000) (hw : w ≤ 5) (hi : i < 2 * w + 1) :
    (0 ≤ rd (trough v w) i ∧ rd (trough v w) i ≤ 102400000) ∧ -1 ≤ rd (trough v w) i - rd (trough v w) ((2 * w - i : Nat) : Int) ∧ rd (trough v w) i - rd (trough v w) ((2 * w - i : Nat) : Int) ≤ 1 := by
  have f1 := tPre_facts w i hw (by omega)
  have f2 := tPre_facts w (i + 1) hw (by omega)
  have ha := tAll_pos w
  have m1 := mul_in v _ hv f1.1
  have m2 := mul_in v _ hv f2.1
  have d1 := div_in _ _ m1 ha.1
  have d2 := div_in _ _ m2 ha.1
  have hXY : v * tPre (tRow w) i ≤ v * tPre (tRow w) (i + 1) := Int.mul_le_mul_of_nonneg_left f1.2.1 hv.1
  have hs := div_sym w hw v _ _ hXY
  rw [trough_rd v w i hw hi, trough_rd v w (2 * w - i) hw (by omega)]
  have e1 : 2 * w - i + 1 = 2 * w + 1 - i := by omega
  have e2 : 2 * w - i = 2 * w + 1 - (i + 1) := by omega
  rw [e1, f1.2.2, e2, f2.2.2, Int.mul_sub, Int.mul_sub]
  omega
theorem sumT (v all : Int) (hv : 0 ≤ v ∧ v ≤ 100000) (ha : 1 ≤ all ∧ all ≤ 1024) : ∀ (l : List Int) (s : Int), tFine s l = true → (tParts v all s l).foldl (fun a x => wrap64 (a + x)) (v * s / all) = v * (s + tPre l l.length) / all
  | [], s, _ => by simp [tParts, tPre]
  | x :: xs, s, h => by
    have ht := tFine_tail h
    have hs2 := tFine_head ht
    have m2 := mul_in v _ hv hs2
    have d2 := div_in _ _ m2 ha.1
    simp only [tParts, List.foldl_cons, List.length_cons, tPre]
    rw [show v * s / all + (v * (s + x) / all - v * s / all) = v * (s + x) / all by omega, w64 _ (by omega) (by omega), sumT v all hv ha xs (s + x) ht, Int.add_assoc]
theorem trough_sum (v : Int) (w : Nat) (hv : 0 ≤ v ∧ v ≤ 100000) (hw : w ≤ 5) : (trough v w).foldl (fun a x => wrap64 (a + x)) 0 = v := by
  have ha := tAll_pos w
  have := sumT v (tAll w) hv ha (tRow w) 0 (tRow_fine w)
  have e0 : v * 0 / tAll w = 0 := by simp
  have e1 : tPre (tRow w) (tRow w).length = tAll w := by
    have : ∀ w, w < 6 → tPre (tRow w) (tRow w).length = tAll w := by decide +kernel
    exact this w (by omega)
  rw [e0, e1] at this
  rw [trough, this, Int.zero_add, Int.mul_ediv_cancel _ (by omega)]

end Go.Proofs.YtegjebiocgbmpaaDoor.P
/- What valid losses settle is a settled list. -/
namespace Go.Proofs.YtegjebiocgbmpaaDoor.P
open Go.RowKit Go.Proofs.YtegjebiocgbmpaaDoor.P Go.Proofs.YtegjebiocgbmpaaDoorW.PrintWords Go.Proofs.YtegjebiocgbmpaaDoorW.PrintLast Go.Proofs.YtegjebiocgbmpaaDoorW.PrintMore
set_option linter.unusedVariables false
set_option linter.unusedSimpArgs false
theorem rd_set (l : List Int) (i j : Nat) (v : Int) (hj : j < l.length) : rd (l.set i v) (j : Int) = if i = j then v else rd l (j : Int) := by
  rw [rd_at _ j (by rw [List.length_set]; exact hj), List.getElem_set, rd_at l j hj]
theorem trough_le (v : Int) (w i : Nat) (hv : 0 ≤ v ∧ v ≤ 100000) (hw : w ≤ 5) (hi : i < 2 * w + 1) : 0 ≤ rd (trough v w) i ∧ rd (trough v w) i ≤ v := by
  have f1 := tPre_facts w i hw (by omega)
  have f2 := tPre_facts w (i + 1) hw (by omega)
  have f3 := tPre_facts w (2 * w + 1 - (i + 1)) hw (by omega)
  have ha := tAll_pos w
  have m1 := mul_in v _ hv f1.1
  have d1 := div_in _ _ m1 ha.1
  have h1 := (trough_part v w i hv hw hi).1.1
  refine ⟨h1, ?_⟩
  have hXY : v * tPre (tRow w) (i + 1) ≤ v * tAll w := Int.mul_le_mul_of_nonneg_left (by have := f2.2.2; have := f3.1.1; omega) hv.1
  have h2 : v * tPre (tRow w) (i + 1) / tAll w ≤ v * tAll w / tAll w := Int.ediv_le_ediv (by omega) hXY
  rw [Int.mul_ediv_cancel _ (by omega)] at h2
  rw [trough_rd v w i hw hi]
  omega
theorem layT_in (o : Nat) (t : List Int) (v M : Int) (hv : 0 ≤ v ∧ v ≤ 1000000) (hM : 0 ≤ M ∧ M ≤ 100000000) (ht : ∀ j : Nat, j < t.length → 0 ≤ rd t (j : Int) ∧ rd t (j : Int) ≤ v) : ∀ (d j : Nat) (p : List Int), j + d = t.length → o + t.length ≤ p.length → (∀ i : Nat, i < p.length → 0 ≤ rd p (i : Int) ∧ (o + j ≤ i → rd p (i : Int) ≤ M) ∧ rd p (i : Int) ≤ M + v) → ∀ i : Nat, i < p.length → 0 ≤ rd (layT o t d j p) (i : Int) ∧ rd (layT o t d j p) (i : Int) ≤ M + v
  | 0, j, p, _, _, h => fun i hi => ⟨(h i hi).1, (h i hi).2.2⟩
  | d + 1, j, p, hj, hl, h => by
    intro i hi
    simp only [layT]
    have h1 := h (o + j) (by omega)
    have h2 := ht j (by omega)
    have h3 := h1.2.1 (Nat.le_refl _)
    refine layT_in o t v M hv hM ht d (j + 1) _ (by omega) (by rw [List.length_set]; exact hl) ?_ i (by rw [List.length_set]; exact hi)
    intro q hq
    rw [List.length_set] at hq
    rw [rd_set p (o + j) q _ hq, w64 _ (by omega) (by omega)]
    have h4 := h q hq
    by_cases e : o + j = q
    · rw [if_pos e]
      exact ⟨by omega, fun h5 => by omega, by omega⟩
    · rw [if_neg e]
      exact ⟨h4.1, fun h5 => h4.2.1 (by omega), h4.2.2⟩
theorem layLs_in (l : List S26) (hv : lsValid l = true) : ∀ (d i : Nat) (p : List Int), i + d = l.length → p.length = 24 → (∀ q : Nat, q < 24 → 0 ≤ rd p (q : Int) ∧ rd p (q : Int) ≤ 100000 * i) → ∀ q : Nat, q < 24 → 0 ≤ rd (layLs l d i p) (q : Int) ∧ rd (layLs l d i p) (q : Int) ≤ 100000 * l.length
  | 0, i, p, hi, hp, h => fun q hq => by have := h q hq; simp only [layLs]; omega
  | d + 1, i, p, hi, hp, h => by
    have h12 := lsValid_len hv
    obtain ⟨g1, g2, g3⟩ := lsValid_at hv i (by omega)
    simp only [layLs]
    have htl := trough_len (rd_T26 l i).f1 (rd_T26 l i).f2.toNat (by omega)
    refine layLs_in l hv d (i + 1) _ (by omega) (by rw [layT_len]; exact hp) ?_
    intro q hq
    have := layT_in ((rd_T26 l (i : Int)).f0 - (rd_T26 l (i : Int)).f2).toNat (trough (rd_T26 l (i : Int)).f1 (rd_T26 l (i : Int)).f2.toNat) 100000 (100000 * i) (by omega) (by omega) (fun j hj => by
      have := trough_le (rd_T26 l i).f1 (rd_T26 l i).f2.toNat j g1 (by omega) (by omega)
      omega) (2 * (rd_T26 l (i : Int)).f2.toNat + 1) 0 p (by omega) (by omega) (fun q hq => by
      have := h q (by omega)
      exact ⟨this.1, fun _ => this.2, by omega⟩) q (by omega)
    omega
theorem settleP_ok (l : List S26) (hv : lsValid l = true) : stOk (settleP l) = true := by
  have h12 := lsValid_len hv
  have h24 := settleP_len l
  unfold stOk
  simp only [Bool.and_eq_true, List.all_eq_true, decide_eq_true_eq]
  refine ⟨?_, by omega⟩
  intro x hx
  obtain ⟨i, hi, rfl⟩ := List.getElem_of_mem hx
  rw [← rd_at _ i hi]
  have := layLs_in l hv l.length 0 (List.replicate 24 0) (by omega) (by simp) (fun q hq => by
    rw [rd_at _ q (by simp; exact hq), List.getElem_replicate]
    omega) i (by omega)
  unfold settleP
  omega

end Go.Proofs.YtegjebiocgbmpaaDoor.P
/- What the program asks of a settled list. -/
namespace Go.Proofs.YtegjebiocgbmpaaDoor.P
open Go.RowKit Go.Proofs.YtegjebiocgbmpaaDoor.P Go.Proofs.YtegjebiocgbmpaaDoorW.PrintWords Go.Proofs.YtegjebiocgbmpaaDoorW.PrintLast Go.Proofs.YtegjebiocgbmpaaDoorW.PrintMore
set_option linter.unusedVariables false
set_option linter.unusedSimpArgs false
theorem implSettled_is (l : List Int) : impl_isSettled.f l = some (stOk l) := by
  unfold impl_isSettled.f impl_areWithin.f impl_areWithin.all stOk
  by_cases h : (l.length : Int) = 24
  · rw [if_pos h]; simp [h]
  · rw [if_neg h]; simp [h]

end Go.Proofs.YtegjebiocgbmpaaDoor.P
/- The volume of settlements, as the program sums it. -/
namespace Go.Proofs.YtegjebiocgbmpaaDoor.P
open Go.RowKit Go.Proofs.YtegjebiocgbmpaaDoor.P Go.Proofs.YtegjebiocgbmpaaDoorW.PrintWords Go.Proofs.YtegjebiocgbmpaaDoorW.PrintLast Go.Proofs.YtegjebiocgbmpaaDoorW.PrintMore
set_option linter.unusedVariables false
set_option linter.unusedSimpArgs false
def sumW (a : Int) (l : List Int) : Int := l.foldl (fun s x => wrap64 (s + x)) a
def volOf (l : List Int) : Int × Bool := if stOk l = true then (sumW 0 l, true) else (0, false)
theorem implVol_loop (l : List Int) (hb : l.length ≤ 9223372036854775806) : ∀ (d k i : Nat) (a : Int), i + d = l.length → d < k → impl_VolumeOf.l0 k a l l.length i = some (sumW a (l.drop i), true) := by
  intro d
  induction d with
  | zero =>
    intro k i a hi hk
    obtain ⟨k, rfl⟩ : ∃ m, k = m + 1 := ⟨k - 1, by omega⟩
    simp only [impl_VolumeOf.l0]
    rw [if_neg (by omega), List.drop_of_length_le (by omega)]
    rfl
  | succ d ih =>
    intro k i a hi hk
    obtain ⟨k, rfl⟩ : ∃ m, k = m + 1 := ⟨k - 1, by omega⟩
    simp only [impl_VolumeOf.l0]
    rw [if_pos (by omega), if_pos (by omega), if_pos (by omega), w64s i (by omega), ih k (i + 1) _ (by omega) (by omega), drop_at l i (by omega)]
    rfl
theorem implVol_is (k : Nat) (l : List Int) (hb : l.length ≤ 9223372036854775806) (hk : l.length < k) : impl_VolumeOf.f k l = some (volOf l) := by
  unfold impl_VolumeOf.f volOf
  rw [implSettled_is l, bind_some_]
  by_cases h : stOk l = true
  · rw [if_pos h, if_pos h]
    exact implVol_loop l hb l.length k 0 0 (by omega) hk
  · rw [if_neg h, if_neg h]

end Go.Proofs.YtegjebiocgbmpaaDoor.P
/- What losses settle, loss for loss: the settlements of a list are those of its parts together, and their volume is that of all losses. -/
namespace Go.Proofs.YtegjebiocgbmpaaDoor.P
open Go.RowKit Go.Proofs.YtegjebiocgbmpaaDoor.P Go.Proofs.YtegjebiocgbmpaaDoorW.PrintWords Go.Proofs.YtegjebiocgbmpaaDoorW.PrintLast Go.Proofs.YtegjebiocgbmpaaDoorW.PrintMore
set_option linter.unusedVariables false
set_option linter.unusedSimpArgs false
def cellT (o : Nat) (t : List Int) (q : Nat) : Int := if o ≤ q ∧ q < o + t.length then rd t ((q - o : Nat) : Int) else 0
theorem layT_rd (o : Nat) (t : List Int) (v M : Int) (hv : 0 ≤ v ∧ v ≤ 1000000) (hM : 0 ≤ M ∧ M ≤ 100000000) (ht : ∀ j : Nat, j < t.length → 0 ≤ rd t (j : Int) ∧ rd t (j : Int) ≤ v) : ∀ (d j : Nat) (p : List Int), j + d = t.length → o + t.length ≤ p.length → (∀ i : Nat, o + j ≤ i → i < p.length → 0 ≤ rd p (i : Int) ∧ rd p (i : Int) ≤ M) → ∀ q : Nat, q < p.length → rd (layT o t d j p) (q : Int) = rd p (q : Int) + (if o + j ≤ q ∧ q < o + t.length then rd t ((q - o : Nat) : Int) else 0)
  | 0, j, p, hj, _, _ => fun q hq => by
    simp only [layT]
    rw [if_neg (by omega)]
    omega
  | d + 1, j, p, hj, hl, h => by
    intro q hq
    simp only [layT]
    have h1 := h (o + j) (Nat.le_refl _) (by omega)
    have h2 := ht j (by omega)
    have hw := w64 (rd p ((o + j : Nat) : Int) + rd t (j : Int)) (by omega) (by omega)
    have ih := layT_rd o t v M hv hM ht d (j + 1) (p.set (o + j) (wrap64 (rd p ((o + j : Nat) : Int) + rd t (j : Int)))) (by omega) (by rw [List.length_set]; exact hl) (fun i hi hi2 => by
      rw [List.length_set] at hi2
      rw [rd_set p (o + j) i _ hi2, if_neg (by omega)]
      exact h i (by omega) hi2) q (by rw [List.length_set]; exact hq)
    rw [ih, rd_set p (o + j) q _ hq, hw]
    clear ih hw
    by_cases e : o + j = q
    · subst e
      rw [if_pos rfl, if_neg (by omega), if_pos (by omega), show o + j - o = j by omega]
      omega
    · rw [if_neg e]
      by_cases c : o + j ≤ q ∧ q < o + t.length
      · rw [if_pos c, if_pos (by omega)]
      · rw [if_neg c, if_neg (by omega)]
def volQ (x : S26) (q : Nat) : Int := cellT (x.f0 - x.f2).toNat (trough x.f1 x.f2.toNat) q
def accQ : List S26 → Nat → Int
  | [], _ => 0
  | x :: l, q => volQ x q + accQ l q
theorem accQ_app (m : List S26) (q : Nat) : ∀ l : List S26, accQ (l ++ m) q = accQ l q + accQ m q
  | [] => by simp [accQ]
  | x :: l => by
    simp only [List.cons_append, accQ]
    rw [accQ_app m q l]
    omega
theorem layLs_rd (l : List S26) (hv : lsValid l = true) : ∀ (d i : Nat) (p : List Int), i + d = l.length → p.length = 24 → (∀ q : Nat, q < 24 → 0 ≤ rd p (q : Int) ∧ rd p (q : Int) ≤ 100000 * i) → ∀ q : Nat, q < 24 → rd (layLs l d i p) (q : Int) = rd p (q : Int) + accQ (l.drop i) q
  | 0, i, p, hi, hp, h => fun q hq => by
    rw [List.drop_of_length_le (by omega)]
    simp only [layLs, accQ]
    omega
  | d + 1, i, p, hi, hp, h => by
    have h12 := lsValid_len hv
    have hlt : i < l.length := by omega
    obtain ⟨g1, g2, g3⟩ := lsValid_at hv i hlt
    rw [List.drop_eq_getElem_cons hlt]
    simp only [layLs, accQ]
    rw [rdLoss_at l i hlt] at g1 g2 g3 ⊢
    have htl := trough_len l[i].f1 l[i].f2.toNat (by omega)
    have hT : ∀ j : Nat, j < (trough l[i].f1 l[i].f2.toNat).length → 0 ≤ rd (trough l[i].f1 l[i].f2.toNat) (j : Int) ∧ rd (trough l[i].f1 l[i].f2.toNat) (j : Int) ≤ 100000 := fun j hj => by
      have := trough_le l[i].f1 l[i].f2.toNat j g1 (by omega) (by omega)
      omega
    intro q hq
    rw [layLs_rd l hv d (i + 1) _ (by omega) (by rw [layT_len]; exact hp) (fun q hq => by
      have := layT_in (l[i].f0 - l[i].f2).toNat (trough l[i].f1 l[i].f2.toNat) 100000 (100000 * i) (by omega) (by omega) hT (2 * l[i].f2.toNat + 1) 0 p (by omega) (by omega) (fun q hq => by
        have := h q (by omega)
        exact ⟨this.1, fun _ => this.2, by omega⟩) q (by omega)
      omega) q hq, layT_rd (l[i].f0 - l[i].f2).toNat (trough l[i].f1 l[i].f2.toNat) 100000 (100000 * i) (by omega) (by omega) hT (2 * l[i].f2.toNat + 1) 0 p (by omega) (by omega) (fun z _ hz => h z (by omega)) q (by omega)]
    unfold volQ cellT
    rw [Nat.add_zero]
    omega
theorem settle_rd (l : List S26) (hv : lsValid l = true) (q : Nat) (hq : q < 24) : rd (settleP l) (q : Int) = accQ l q := by
  have h := layLs_rd l hv l.length 0 (List.replicate 24 0) (by omega) (by simp) (fun q hq => by
    rw [rd_at _ q (by simp; exact hq), List.getElem_replicate]
    omega) q hq
  unfold settleP
  rw [h, List.drop_zero, rd_at _ q (by simp; exact hq), List.getElem_replicate]
  omega
theorem lsValid_iff (l : List S26) : lsValid l = true ↔ (∀ x ∈ l, lsOk [x] 0 = true) ∧ l.length ≤ 12 := by
  have e : ∀ i : Nat, (hi : i < l.length) → lsOk l i = lsOk [l[i]] 0 := fun i hi => by
    unfold lsOk
    rw [rdLoss_at l i hi]
    rfl
  unfold lsValid
  rw [Bool.and_eq_true, upTo_iff, decide_eq_true_eq]
  constructor
  · rintro ⟨h1, h2⟩
    refine ⟨fun x hx => ?_, by omega⟩
    obtain ⟨i, hi, rfl⟩ := List.getElem_of_mem hx
    rw [← e i hi]
    exact h1 i (by omega) (by omega)
  · rintro ⟨h1, h2⟩
    refine ⟨fun i _ hi => ?_, by omega⟩
    rw [e i (by omega)]
    exact h1 _ (List.getElem_mem _)
theorem lsValid_take {l : List S26} (h : lsValid l = true) (c : Nat) : lsValid (l.take c) = true := by
  rw [lsValid_iff] at h ⊢
  exact ⟨fun x hx => h.1 x (List.mem_of_mem_take hx), by rw [List.length_take]; omega⟩
theorem lsValid_drop {l : List S26} (h : lsValid l = true) (c : Nat) : lsValid (l.drop c) = true := by
  rw [lsValid_iff] at h ⊢
  exact ⟨fun x hx => h.1 x (List.mem_of_mem_drop hx), by rw [List.length_drop]; omega⟩
theorem lsValid_one {l : List S26} (h : lsValid l = true) {x : S26} (hx : x ∈ l) : lsValid [x] = true := by
  rw [lsValid_iff] at h ⊢
  refine ⟨fun y hy => ?_, by simp⟩
  rw [List.mem_singleton.mp hy]
  exact h.1 x hx
theorem settle_parts (l : List S26) (hv : lsValid l = true) (c q : Nat) (hq : q < 24) : rd (settleP l) (q : Int) = rd (settleP (l.take c)) (q : Int) + rd (settleP (l.drop c)) (q : Int) := by
  rw [settle_rd l hv q hq, settle_rd _ (lsValid_take hv c) q hq, settle_rd _ (lsValid_drop hv c) q hq, ← accQ_app, List.take_append_drop]
def sumQ (f : Nat → Int) : Nat → Int
  | 0 => 0
  | n + 1 => sumQ f n + f n
theorem sumQ_add (f g : Nat → Int) : ∀ n : Nat, sumQ (fun q => f q + g q) n = sumQ f n + sumQ g n
  | 0 => rfl
  | n + 1 => by
    simp only [sumQ]
    rw [sumQ_add f g n]
    omega
theorem sumQ_eq (f g : Nat → Int) : ∀ n : Nat, (∀ q, q < n → f q = g q) → sumQ f n = sumQ g n
  | 0, _ => rfl
  | n + 1, h => by
    simp only [sumQ]
    rw [sumQ_eq f g n (fun q hq => h q (by omega)), h n (by omega)]
theorem take_sum (t : List Int) : ∀ m : Nat, m < t.length → (t.take (m + 1)).sum = (t.take m).sum + rd t (m : Int) := fun m h => by
  rw [List.take_add_one, List.getElem?_eq_getElem h, rd_at t m h, List.sum_append]
  simp
theorem sumQ_rd (t : List Int) : ∀ m : Nat, m ≤ t.length → sumQ (fun q => rd t (q : Int)) m = (t.take m).sum
  | 0, _ => by simp [sumQ]
  | m + 1, h => by
    simp only [sumQ]
    rw [sumQ_rd t m (by omega), take_sum t m (by omega)]
theorem sumQ_cell (o : Nat) (t : List Int) : ∀ n : Nat, sumQ (cellT o t) n = (t.take (n - o)).sum
  | 0 => by simp [sumQ]
  | n + 1 => by
    simp only [sumQ]
    rw [sumQ_cell o t n]
    unfold cellT
    by_cases c : o ≤ n ∧ n < o + t.length
    · rw [if_pos c, show n + 1 - o = (n - o) + 1 by omega, take_sum t (n - o) (by omega)]
    · rw [if_neg c]
      by_cases c2 : n < o
      · rw [show n - o = 0 by omega, show n + 1 - o = 0 by omega]
        omega
      · rw [List.take_of_length_le (by omega), List.take_of_length_le (by omega)]
        omega
theorem sumW_is (B : Int) (hB : 0 ≤ B ∧ B ≤ 100000000) : ∀ (l : List Int) (a : Int), 0 ≤ a → (∀ x ∈ l, 0 ≤ x ∧ x ≤ B) → a + B * (l.length : Int) ≤ 1000000000000000 → sumW a l = a + l.sum
  | [], a, _, _, _ => by simp [sumW]
  | x :: l, a, ha, hx, hs => by
    have h1 := hx x (by simp)
    have h3 : B * ((x :: l).length : Int) = B * (l.length : Int) + B := by rw [List.length_cons, Int.natCast_add, Int.mul_add]; omega
    have h4 : 0 ≤ B * (l.length : Int) := Int.mul_nonneg hB.1 (by omega)
    have hw := w64 (a + x) (by omega) (by omega)
    have ih := sumW_is B hB l (a + x) (by omega) (fun y hy => hx y (List.mem_cons_of_mem _ hy)) (by omega)
    unfold sumW at ih ⊢
    rw [List.foldl_cons, hw, ih, List.sum_cons]
    omega
def volsOf : List S26 → Int
  | [] => 0
  | x :: l => x.f1 + volsOf l
theorem volsOf_app (m : List S26) : ∀ l : List S26, volsOf (l ++ m) = volsOf l + volsOf m
  | [] => by simp [volsOf]
  | x :: l => by
    simp only [List.cons_append, volsOf]
    rw [volsOf_app m l]
    omega
theorem acc_sum : ∀ l : List S26, (∀ x ∈ l, lsValid [x] = true) → sumQ (accQ l) 24 = volsOf l
  | [], _ => by
    have : ∀ n : Nat, sumQ (accQ []) n = 0 := fun n => by
      induction n with
      | zero => rfl
      | succ n ih =>
        show sumQ (accQ []) n + accQ [] n = 0
        rw [ih]
        rfl
    rw [this]
    rfl
  | x :: l, h => by
    have hx := lsValid_at (h x (by simp)) 0 (by simp)
    have e0 : rd_T26 [x] ((0 : Nat) : Int) = x := rfl
    rw [e0] at hx
    obtain ⟨g1, g2, g3⟩ := hx
    have htl := trough_len x.f1 x.f2.toNat (by omega)
    have e1 : accQ (x :: l) = fun q => volQ x q + accQ l q := rfl
    have e2 : volQ x = cellT (x.f0 - x.f2).toNat (trough x.f1 x.f2.toNat) := rfl
    rw [e1, sumQ_add (volQ x) (accQ l) 24, acc_sum l (fun y hy => h y (List.mem_cons_of_mem _ hy)), e2, sumQ_cell, List.take_of_length_le (by omega)]
    have h1 := trough_sum x.f1 x.f2.toNat g1 (by omega)
    have h2 := sumW_is 100000 (by omega) (trough x.f1 x.f2.toNat) 0 (Int.le_refl _) (fun y hy => by
      obtain ⟨i, hi, rfl⟩ := List.getElem_of_mem hy
      rw [← rd_at _ i hi]
      have := trough_le x.f1 x.f2.toNat i g1 (by omega) (by omega)
      omega) (by omega)
    unfold sumW at h2
    rw [h1] at h2
    simp only [volsOf]
    omega
theorem settle_sum (l : List S26) (hv : lsValid l = true) : sumW 0 (settleP l) = volsOf l := by
  have hlen := settleP_len l
  have hok := settleP_ok l hv
  have h1 := sumW_is 2000000 (by omega) (settleP l) 0 (Int.le_refl _) (fun y hy => by
    obtain ⟨i, hi, rfl⟩ := List.getElem_of_mem hy
    rw [← rd_at _ i hi]
    exact stOk_in hok i hi) (by omega)
  have h2 := sumQ_rd (settleP l) 24 (by omega)
  rw [List.take_of_length_le (by omega), sumQ_eq _ (accQ l) 24 (fun q hq => settle_rd l hv q hq), acc_sum l (fun x hx => lsValid_one hv hx)] at h2
  omega

end Go.Proofs.YtegjebiocgbmpaaDoor.P
/- A text cut at the first place of another one. -/
namespace Go.Proofs.YtegjebiocgbmpaaDoor.P
open Go.RowKit Go.Proofs.YtegjebiocgbmpaaDoor.P Go.Proofs.YtegjebiocgbmpaaDoorW.PrintWords Go.Proofs.YtegjebiocgbmpaaDoorW.PrintLast Go.Proofs.YtegjebiocgbmpaaDoorW.PrintMore
set_option linter.unusedVariables false
set_option linter.unusedSimpArgs false
theorem idx_app (c : UInt8) (t r : List UInt8) : ∀ p : List UInt8, c ∉ p → Lib.index (p ++ ((c :: t) ++ r)) (c :: t) = (p.length : Int)
  | [], _ => by
    have h : (c :: t).isPrefixOf ((c :: t) ++ r) = true := List.isPrefixOf_iff_prefix.mpr (List.prefix_append _ _)
    rw [List.cons_append] at h
    rw [List.nil_append]
    show Lib.index (c :: (t ++ r)) (c :: t) = 0
    unfold Lib.index
    rw [if_pos h]
  | b :: p, hc => by
    have hb : ¬ c = b := fun e => hc (by simp [e])
    have h : (c :: t).isPrefixOf (b :: (p ++ ((c :: t) ++ r))) = false := by
      simp only [List.isPrefixOf]
      rw [beq_eq_false_iff_ne.mpr hb, Bool.false_and]
    have ih := idx_app c t r p (fun e => hc (by simp [e]))
    rw [List.cons_append]
    unfold Lib.index
    rw [h, ih, if_neg (by simp), if_neg (by simp), List.length_cons]
    omega
theorem cut_app (c : UInt8) (t r p : List UInt8) (h : c ∉ p) : Lib.cut (p ++ ((c :: t) ++ r)) (c :: t) = (p, r, true) := by
  unfold Lib.cut
  rw [idx_app c t r p h, if_pos (by omega), Int.toNat_natCast, List.take_left', List.drop_append, List.drop_of_length_le (by omega)]
  · congr 1
    rw [List.nil_append, show p.length + (c :: t).length - p.length = (c :: t).length by omega, List.drop_left]
  · rfl
theorem cut_len (s p : List UInt8) : (Lib.cut s p).1.length ≤ s.length ∧ (Lib.cut s p).2.1.length ≤ s.length := by
  unfold Lib.cut
  split
  · simp only [List.length_take, List.length_drop]
    omega
  · simp
theorem trim_len (s p : List UInt8) : (Lib.trimPrefix s p).length ≤ s.length := by
  unfold Lib.trimPrefix
  split
  · simp
  · exact Nat.le_refl _
theorem trim_hit (c : UInt8) (r : List UInt8) : Lib.trimPrefix (c :: r) [c] = r := by
  unfold Lib.trimPrefix Lib.hasPrefix
  rw [if_pos (by simp [List.isPrefixOf])]
  rfl
theorem ext_tx (s : List UInt8) (f i : Nat) : (tx s).extract f i = tx ((s.drop f).take (i - f)) := by
  apply ByteArray.ext
  rw [ByteArray.data_extract]
  simp [tx]

end Go.Proofs.YtegjebiocgbmpaaDoor.P
/- The number with a text: what the library's parse and print say together. -/
namespace Go.Proofs.YtegjebiocgbmpaaDoor.P
open Go.RowKit Go.Proofs.YtegjebiocgbmpaaDoor.P Go.Proofs.YtegjebiocgbmpaaDoorW.PrintWords Go.Proofs.YtegjebiocgbmpaaDoorW.PrintLast Go.Proofs.YtegjebiocgbmpaaDoorW.PrintMore
set_option linter.unusedVariables false
set_option linter.unusedSimpArgs false
theorem tx_toList (l : List UInt8) : (tx l).toList = l := by
  rw [ByteArray.toList_eq]
  exact tx_data l
theorem dec_digits : ∀ (F m : Nat), m < F → ∀ c ∈ Lib.decDigits m, 48 ≤ c.toNat ∧ c.toNat ≤ 57 := by
  intro F
  induction F with
  | zero => intro m h; omega
  | succ F ih =>
    intro m hm c hc
    have hlt := Nat.mod_lt m (show 0 < 10 by decide)
    have hd : ∀ c ∈ [UInt8.ofNat (48 + m % 10)], 48 ≤ c.toNat ∧ c.toNat ≤ 57 := fun c hc => by
      rw [List.mem_singleton.mp hc, UInt8.toNat_ofNat']
      omega
    by_cases h : m < 10
    · rw [decDigits_low h] at hc
      exact hd c hc
    · rw [decDigits_more h] at hc
      rcases List.mem_append.mp hc with e | e
      · exact ih (m / 10) (by omega) c e
      · exact hd c e
theorem dec_ne (m : Nat) : Lib.decDigits m ≠ [] := by
  by_cases h : m < 10
  · rw [decDigits_low h]; simp
  · rw [decDigits_more h]; simp
theorem parse_dd : ∀ (F m : Nat), m < F → m ≤ 18446744073709551615 → ∀ r, Lib.parseUintM 18446744073709551615 0 (Lib.decDigits m ++ r) = Lib.parseUintM 18446744073709551615 m r := by
  intro F
  induction F with
  | zero => intro m h; omega
  | succ F ih =>
    intro m hm hb r
    have hlt := Nat.mod_lt m (show 0 < 10 by decide)
    have hd : (UInt8.ofNat (48 + m % 10)).toNat = 48 + m % 10 := by rw [UInt8.toNat_ofNat']; omega
    by_cases h : m < 10
    · rw [decDigits_low h, List.singleton_append]
      simp only [Lib.parseUintM]
      rw [hd, if_pos (by omega), if_neg (by omega), if_neg (by omega), show 0 * 10 + (48 + m % 10 - 48) = m by omega]
    · rw [decDigits_more h, List.append_assoc, ih (m / 10) (by omega) (by omega), List.singleton_append]
      simp only [Lib.parseUintM]
      rw [hd, if_pos (by omega), if_neg (by omega), if_neg (by omega), show m / 10 * 10 + (48 + m % 10 - 48) = m by omega]
theorem parse_mag (m : Nat) (hb : m ≤ 18446744073709551615) : Lib.parseUintB 64 (Lib.decDigits m) = .ok m := by
  unfold Lib.parseUintB
  rw [if_neg (dec_ne m), show 2 ^ 64 - 1 = 18446744073709551615 from rfl]
  have := parse_dd (m + 1) m (by omega) hb []
  rw [List.append_nil] at this
  rw [this]
  rfl
theorem parse_itoa (n : Int) (hn : -9223372036854775808 ≤ n ∧ n ≤ 9223372036854775807) : Lib.parseIntB 64 (Lib.itoa n) = .ok n := by
  unfold Lib.itoa
  by_cases h : n < 0
  · rw [if_pos h]
    unfold Lib.parseIntB
    have e45 : (45 : UInt8).toNat = 45 := rfl
    simp only [e45]
    rw [if_pos (Or.inr trivial), parse_mag _ (by omega)]
    simp only [show (2 ^ (64 - 1) : Nat) = 9223372036854775808 from rfl]
    rw [if_neg (by simp), if_neg (by omega), if_pos trivial]
    congr 1
    omega
  · rw [if_neg h]
    have hp := parse_mag n.toNat (by omega)
    cases hl : Lib.decDigits n.toNat with
    | nil => exact absurd hl (dec_ne _)
    | cons c r =>
      have hc := dec_digits (n.toNat + 1) n.toNat (by omega) c (by rw [hl]; simp)
      rw [hl] at hp
      unfold Lib.parseIntB
      dsimp only
      rw [if_neg (by omega), hp]
      simp only [show (2 ^ (64 - 1) : Nat) = 9223372036854775808 from rfl]
      rw [if_neg (by omega), if_neg (by omega), if_neg (by omega)]
      congr 1
      omega
def decOf (s : List UInt8) : Option Int := match Lib.parseIntB 64 s with
  | .ok v => if Lib.itoa v = s then some v else none
  | _ => none
theorem decOf_itoa (n : Int) (hn : -9223372036854775808 ≤ n ∧ n ≤ 9223372036854775807) : decOf (Lib.itoa n) = some n := by
  unfold decOf
  rw [parse_itoa n hn]
  simp
theorem decOf_some {s : List UInt8} {n : Int} (h : decOf s = some n) : Lib.itoa n = s ∧ -9223372036854775808 ≤ n ∧ n ≤ 9223372036854775807 := by
  unfold decOf at h
  cases hp : Lib.parseIntB 64 s with
  | ok v =>
    rw [hp] at h
    dsimp only at h
    have hb := Lib.parseIntB_bounds (B := 64) hp
    rw [show ((2 ^ (64 - 1) : Nat) : Int) = 9223372036854775808 from rfl] at hb
    split at h
    · rename_i e
      obtain rfl := Option.some.inj h
      exact ⟨e, by omega⟩
    · cases h
  | range => rw [hp] at h; cases h
  | _ => rw [hp] at h; cases h
def valIn (lo hi : Int) (s : List UInt8) : Int × Bool := match decOf s with
  | some v => if lo ≤ v ∧ v ≤ hi then (v, true) else (0, false)
  | none => (0, false)
theorem valIn_itoa {lo hi n : Int} (hn : -9223372036854775808 ≤ n ∧ n ≤ 9223372036854775807) (h : lo ≤ n ∧ n ≤ hi) : valIn lo hi (Lib.itoa n) = (n, true) := by
  unfold valIn
  rw [decOf_itoa n hn]
  dsimp only
  rw [if_pos h]
theorem valIn_true {lo hi : Int} {s : List UInt8} (h : (valIn lo hi s).2 = true) : Lib.itoa (valIn lo hi s).1 = s ∧ (-9223372036854775808 ≤ (valIn lo hi s).1 ∧ (valIn lo hi s).1 ≤ 9223372036854775807) ∧ lo ≤ (valIn lo hi s).1 ∧ (valIn lo hi s).1 ≤ hi := by
  unfold valIn at h ⊢
  cases hd : decOf s with
  | none => rw [hd] at h; cases h
  | some v =>
    rw [hd] at h
    have := decOf_some hd
    dsimp only at h ⊢
    split at h
    · rename_i hb
      rw [if_pos hb]
      exact ⟨this.1, this.2, hb⟩
    · cases h

end Go.Proofs.YtegjebiocgbmpaaDoor.P
/- The program's number with a text. -/
namespace Go.Proofs.YtegjebiocgbmpaaDoor.P
open Go.RowKit Go.Proofs.YtegjebiocgbmpaaDoor.P Go.Proofs.YtegjebiocgbmpaaDoorW.PrintWords Go.Proofs.YtegjebiocgbmpaaDoorW.PrintLast Go.Proofs.YtegjebiocgbmpaaDoorW.PrintMore
set_option linter.unusedVariables false
set_option linter.unusedSimpArgs false
theorem implReadIn_is (s : List UInt8) (lo hi : Int) (hs : s.length ≤ 281474976710656) : impl_readIn.f (tx s) lo hi = some (valIn lo hi s) := by
  unfold impl_readIn.f valIn decOf
  rw [tx_size, if_pos hs, tx_data, tx_toList]
  congr 1
  cases Lib.parseIntB 64 s with
  | ok v =>
    dsimp only
    rw [show (⟨(Lib.itoa v).toArray⟩ : ByteArray) = tx (Lib.itoa v) from rfl, tx_toList]
    by_cases h : Lib.itoa v = s
    · rw [if_pos h]
      dsimp only
      by_cases h2 : lo ≤ v ∧ v ≤ hi
      · rw [if_pos ⟨h, h2⟩, if_pos h2]
      · rw [if_neg (fun z => h2 z.2), if_neg h2]
    · rw [if_neg (fun z => h z.1), if_neg h]
  | range => rfl
  | _ => rfl
theorem implReadDecimal_is (s : List UInt8) (hs : s.length ≤ 281474976710656) : impl_ReadDecimal.f (tx s) = some (valIn (-1000000000) 1000000000 s) := by
  unfold impl_ReadDecimal.f
  rw [implReadIn_is s _ _ hs, bind_some_]

end Go.Proofs.YtegjebiocgbmpaaDoor.P
/- The loss with a text, as the program and the reference read it. -/
namespace Go.Proofs.YtegjebiocgbmpaaDoor.P
open Go.RowKit Go.Proofs.YtegjebiocgbmpaaDoor.P Go.Proofs.YtegjebiocgbmpaaDoorW.PrintWords Go.Proofs.YtegjebiocgbmpaaDoorW.PrintLast Go.Proofs.YtegjebiocgbmpaaDoorW.PrintMore
set_option linter.unusedVariables false
set_option linter.unusedSimpArgs false
def v9 (s : List UInt8) : Int × Bool := valIn (-1000000000) 1000000000 s
def lossL (a b c : Int) : List UInt8 := (((([64] ++ Lib.itoa a) ++ [32]) ++ Lib.itoa b) ++ [108, 47]) ++ Lib.itoa c
theorem lossT_tx (a b c : Int) : lossT a b c = tx (lossL a b c) := by
  unfold lossT dd lossL
  rw [lit1, lit1, lit2, tx_app, tx_app, tx_app, tx_app, tx_app]
def zL : Int × Int × Int × Bool := (0, 0, 0, false)
def okL (s : List UInt8) (a b c : Int) : Int × Int × Int × Bool := if lsValid [⟨a, b, c⟩] = true then (if lossL a b c = s then (a, b, c, true) else zL) else zL
theorem okL_shape (s : List UInt8) (a b c : Int) : okL s a b c = zL ∨ (okL s a b c = (a, b, c, true) ∧ lsValid [⟨a, b, c⟩] = true ∧ lossL a b c = s) := by
  unfold okL
  split
  · rename_i h
    split
    · rename_i e
      exact Or.inr ⟨rfl, h, e⟩
    · exact Or.inl rfl
  · exact Or.inl rfl
def rdI (s : List UInt8) : Int × Int × Int × Bool :=
  let q := Lib.cut (Lib.trimPrefix s [64]) [32]
  let u := Lib.cut q.2.1 [108, 47]
  if (v9 q.1).2 = true then (if (v9 u.1).2 = true then (if (v9 u.2.1).2 = true then (if q.2.2 = true then (if u.2.2 = true then okL s (v9 q.1).1 (v9 u.1).1 (v9 u.2.1).1 else zL) else zL) else zL) else zL) else zL
theorem lsValid_in {a b c : Int} (h : lsValid [⟨a, b, c⟩] = true) : (0 ≤ b ∧ b ≤ 100000) ∧ (0 ≤ c ∧ c ≤ 5) ∧ c ≤ a ∧ a ≤ 23 - c := by
  unfold lsValid at h
  simp only [List.length_cons, List.length_nil, upTo, lsOk, Bool.and_eq_true, decide_eq_true_eq, Nat.zero_add] at h
  have e : rd_T26 [(⟨a, b, c⟩ : S26)] ((0 : Nat) : Int) = ⟨a, b, c⟩ := rfl
  rw [e] at h
  dsimp only at h
  obtain ⟨⟨⟨⟨h1, h2⟩, h3⟩, _⟩, _⟩ := h
  rw [w64 _ (by omega) (by omega)] at h3
  exact ⟨h1, h2, h3⟩
theorem itoa_free {n : Int} (h : 0 ≤ n) (x : UInt8) (hx : x.toNat < 48 ∨ 57 < x.toNat) : x ∉ Lib.itoa n := fun hm => by
  unfold Lib.itoa at hm
  rw [if_neg (by omega)] at hm
  have := dec_digits (n.toNat + 1) n.toNat (by omega) x hm
  omega
theorem rdI_text {a b c : Int} (h : lsValid [⟨a, b, c⟩] = true) : rdI (lossL a b c) = (a, b, c, true) := by
  obtain ⟨h1, h2, h3, h4⟩ := lsValid_in h
  have e1 : lossL a b c = 64 :: (Lib.itoa a ++ (((32 : UInt8) :: []) ++ (Lib.itoa b ++ (((108 : UInt8) :: [47]) ++ Lib.itoa c)))) := by
    unfold lossL
    simp
  have t1 : Lib.trimPrefix (lossL a b c) [64] = Lib.itoa a ++ (((32 : UInt8) :: []) ++ (Lib.itoa b ++ (((108 : UInt8) :: [47]) ++ Lib.itoa c))) := by rw [e1, trim_hit]
  have t2 := cut_app 32 [] (Lib.itoa b ++ (((108 : UInt8) :: [47]) ++ Lib.itoa c)) (Lib.itoa a) (itoa_free (by omega) 32 (by decide))
  have t3 := cut_app 108 [47] (Lib.itoa c) (Lib.itoa b) (itoa_free (by omega) 108 (by decide))
  unfold rdI
  rw [t1, t2]
  dsimp only
  rw [t3]
  dsimp only
  unfold v9
  rw [valIn_itoa (by omega) (by omega), valIn_itoa (by omega) (by omega), valIn_itoa (by omega) (by omega)]
  dsimp only
  unfold okL
  rw [if_pos rfl, if_pos rfl, if_pos rfl, if_pos rfl, if_pos rfl, if_pos h, if_pos rfl]
theorem rdI_shape (s : List UInt8) : rdI s = zL ∨ ∃ a b c, rdI s = (a, b, c, true) ∧ lsValid [⟨a, b, c⟩] = true ∧ lossL a b c = s := by
  unfold rdI
  dsimp only
  split
  · split
    · split
      · split
        · split
          · rcases okL_shape s (v9 (Lib.cut (Lib.trimPrefix s [64]) [32]).1).1 (v9 (Lib.cut (Lib.cut (Lib.trimPrefix s [64]) [32]).2.1 [108, 47]).1).1 (v9 (Lib.cut (Lib.cut (Lib.trimPrefix s [64]) [32]).2.1 [108, 47]).2.1).1 with e | ⟨e, h1, h2⟩
            · exact Or.inl e
            · exact Or.inr ⟨_, _, _, e, h1, h2⟩
          · exact Or.inl rfl
        · exact Or.inl rfl
      · exact Or.inl rfl
    · exact Or.inl rfl
  · exact Or.inl rfl
theorem v9_in (s : List UInt8) : i64R (v9 s).1 := by
  unfold v9 valIn
  cases h : decOf s with
  | none => exact ⟨by decide, by decide⟩
  | some v =>
    have := decOf_some h
    dsimp only
    split
    · exact ⟨this.2.1, this.2.2⟩
    · exact ⟨by decide, by decide⟩
theorem implReadLoss_is (k : Nat) (s : List UInt8) (hs : s.length ≤ 1048576) (hk : 100 < k) : impl_ReadLoss.f k (tx s) = some (rdI s) := by
  obtain ⟨k, rfl⟩ : ∃ m, k = m + 4 := ⟨k - 4, by omega⟩
  have l1 := trim_len s [64]
  have l2 := cut_len (Lib.trimPrefix s [64]) [32]
  have l3 := cut_len (Lib.cut (Lib.trimPrefix s [64]) [32]).2.1 [108, 47]
  obtain ⟨q1, q2, q3, hq⟩ : ∃ q1 q2 q3, Lib.cut (Lib.trimPrefix s [64]) [32] = (q1, q2, q3) := ⟨_, _, _, rfl⟩
  obtain ⟨u1, u2, u3, hu⟩ : ∃ u1 u2 u3, Lib.cut q2 [108, 47] = (u1, u2, u3) := ⟨_, _, _, rfl⟩
  rw [hq] at l2 l3
  dsimp only at l2 l3
  rw [hu] at l3
  dsimp only at l3
  unfold impl_ReadLoss.f rdI strings_TrimPrefix.f strings_Cut.f
  rw [bind_some_, lit1, lit1, lit2, tx_data, tx_data, show (⟨(Lib.trimPrefix s [64]).toArray⟩ : ByteArray) = tx (Lib.trimPrefix s [64]) from rfl, tx_size, if_pos (by omega), tx_data, tx_data, bind_some_, hq]
  dsimp only
  rw [show (⟨q2.toArray⟩ : ByteArray) = tx q2 from rfl, show (⟨q1.toArray⟩ : ByteArray) = tx q1 from rfl, tx_size, if_pos (by omega), tx_data, bind_some_, hu]
  dsimp only
  rw [show (⟨u1.toArray⟩ : ByteArray) = tx u1 from rfl, show (⟨u2.toArray⟩ : ByteArray) = tx u2 from rfl, bind_some_]
  have r0 : rdOf ByteArray.empty [tx q1, tx u1, tx u2] 0 = tx q1 := rfl
  have r1 : rdOf ByteArray.empty [tx q1, tx u1, tx u2] 1 = tx u1 := rfl
  have r2 : rdOf ByteArray.empty [tx q1, tx u1, tx u2] 2 = tx u2 := rfl
  have n1 : wrap64 (0 + 1) = 1 := by rw [w64 (0 + 1) (by omega) (by omega)]; rfl
  have n2 : wrap64 (1 + 1) = 2 := by rw [w64 (1 + 1) (by omega) (by omega)]; rfl
  have n3 : wrap64 (2 + 1) = 3 := by rw [w64 (2 + 1) (by omega) (by omega)]; rfl
  simp only [impl_ReadLoss.l0, List.length_cons, List.length_nil]
  rw [if_pos (by decide), if_pos (by decide), if_pos (by decide), r0, implReadDecimal_is q1 (by omega), bind_some_, show valIn (-1000000000) 1000000000 q1 = v9 q1 from rfl]
  by_cases c1 : (v9 q1).2 = true
  · rw [if_pos c1, if_pos c1, if_pos (by decide), n1, if_pos (by decide), if_pos (by decide), if_pos (by decide), r1, implReadDecimal_is u1 (by omega), bind_some_, show valIn (-1000000000) 1000000000 u1 = v9 u1 from rfl]
    by_cases c2 : (v9 u1).2 = true
    · rw [if_pos c2, if_pos c2, if_pos (by simp), n2, if_pos (by decide), if_pos (by decide), if_pos (by decide), r2, implReadDecimal_is u2 (by omega), bind_some_, show valIn (-1000000000) 1000000000 u2 = v9 u2 from rfl]
      by_cases c3 : (v9 u2).2 = true
      · rw [if_pos c3, if_pos c3, if_pos (by simp), n3, if_neg (by decide)]
        have e0 : rd ((([] ++ [(v9 q1).1]) ++ [(v9 u1).1]) ++ [(v9 u2).1]) 0 = (v9 q1).1 := rfl
        have e1 : rd ((([] ++ [(v9 q1).1]) ++ [(v9 u1).1]) ++ [(v9 u2).1]) 1 = (v9 u1).1 := rfl
        have e2 : rd ((([] ++ [(v9 q1).1]) ++ [(v9 u1).1]) ++ [(v9 u2).1]) 2 = (v9 u2).1 := rfl
        have hlen : ((([] ++ [(v9 q1).1]) ++ [(v9 u1).1]) ++ [(v9 u2).1]).length = 3 := rfl
        rw [hlen, if_pos (by decide), if_pos (by decide), if_pos (by decide), e0, e1, e2, implLossT_is k _ _ _ (v9_in q1) (v9_in u1) (v9_in u2) (by omega), bind_some_]
        by_cases c4 : q3 = true
        · rw [if_pos c4, if_pos c4]
          by_cases c5 : u3 = true
          · rw [if_pos c5, if_pos c5]
            unfold okL
            by_cases c6 : lsValid [⟨(v9 q1).1, (v9 u1).1, (v9 u2).1⟩] = true
            · rw [if_pos c6, if_pos c6]
              dsimp only
              rw [if_pos rfl, lossT_tx, tx_toList, tx_toList]
              by_cases c7 : lossL (v9 q1).1 (v9 u1).1 (v9 u2).1 = s
              · rw [if_pos c7, if_pos c7]
              · rw [if_neg c7, if_neg c7]
                rfl
            · rw [if_neg c6, if_neg c6]
              dsimp only
              rw [if_neg (by simp)]
              rfl
          · rw [if_neg c5, if_neg c5]
            rfl
        · rw [if_neg c4, if_neg c4]
          rfl
      · rw [if_neg c3, if_neg c3]
        rfl
    · rw [if_neg c2, if_neg c2]
      rfl
  · rw [if_neg c1, if_neg c1]
    rfl

end Go.Proofs.YtegjebiocgbmpaaDoor.P
/- A row whose library variables are laid, proved by a contract that is handed the laid ones and the world's shape. -/
namespace Go.Proofs.YtegjebiocgbmpaaDoor.P
open Go.RowKit Go.Proofs.YtegjebiocgbmpaaDoor.P Go.Proofs.YtegjebiocgbmpaaDoorW.PrintWords Go.Proofs.YtegjebiocgbmpaaDoorW.PrintLast Go.Proofs.YtegjebiocgbmpaaDoorW.PrintMore
set_option linter.unusedVariables false
set_option linter.unusedSimpArgs false
theorem hold_handed {H : Type} {enc : TypeId × Value → H} {a : Assume} {C : Checked} {os : Os} {f : FuncId} {fn : Func} {s : ChangeSpec} {conds : List PathCond} {apart fresh handsOn again : Bool} {X : World → Array Value → Prop}
    (hX : ∀ (w w' : World) (args : Array Value), w.heap = w'.heap → X w args → X w' args)
    (own : ownKnob C.prog.godebug = none) (started : os.Started) (noInit : C.prog.inits.idxOf? f = none) (hfn : C.prog.funcs[f]? = some fn)
    (witness : ∃ (w : World) (tape : Tape) (i : Input), w.os = os ∧ (w.forCall tape i).Shaped C.prog ∧ i.vars = [] ∧ Input.okWide C.prog (w.forCall tape i) .any w.heap.size f i ∧
      ((s.pre enc C.prog fn conds apart (w.forCall tape i).memory i.args ∧ X (w.forCall tape i).memory i.args) ∧ sizedMet enc C.prog fn (OpenSpec.ofChange s) apart (w.forCall tape i).memory i.args) ∧ a.holds C.prog (lone (Frame.enter C.prog f i.args .normal) [] (w.forCall tape i)))
    (contract : ∀ (W : World) (base : Nat) (args : Array Value) (ds gs : List (DataW H)) (before : List MemPlace),
      (∀ (j : Nat) t v, fn.params[j]? = some t → args[j]? = some v → Value.okWide C.prog W .any base t v) →
      DataW.Whole enc C.prog fn.params.toList s.vars apart W args.toList ds gs before →
      conds.all (PathCond.test C.prog ⟨fn.params.toList, ds, s.plain.varTypes C.prog, gs⟩) = true →
      (DataW.weightsEach C.prog (fn.params.toList ++ s.plain.varTypes C.prog) (ds ++ gs)).all (· ≤ reachBytes) = true →
      W.ShapedOpen C.prog ∧ X W args →
      Calls C.prog f args W fun e W' => ∃ v, e = .returned v ∧ s.post enc C.prog fn apart fresh handsOn again W args v W') :
    ReturnsInHanded a C os f .any (fun w args => (s.pre enc C.prog fn conds apart w args ∧ X w args) ∧ sizedMet enc C.prog fn (OpenSpec.ofChange s) apart w args) (s.post enc C.prog fn apart fresh handsOn again) := by
  refine returnsInHanded_of_calls own started noInit witness ?_
  intro w tape i _ hsh _ hok hpre _
  obtain ⟨_, _, _, fn', hfn', _, _, _, _, hval⟩ := hok
  obtain rfl : fn' = fn := Option.some.inj (hfn'.symm.trans hfn)
  obtain ⟨⟨⟨ds, gs, before, hw, hc⟩, hx⟩, hz⟩ := hpre
  refine (contract (w.forCall tape i) w.heap.size i.args ds gs before hval (DataW.Whole.of_heap (w' := w.forCall tape i) (by rfl) hw) hc (hz.weights hw) ⟨hsh, hX _ _ _ (by rfl) hx⟩).mono fun e W' ⟨v, he, hp⟩ => ?_
  subst he
  exact ChangeSpec.post_blind hp

end Go.Proofs.YtegjebiocgbmpaaDoor.P
