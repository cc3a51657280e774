-- Walks of this claim's functions, laid by a program of this session.
import Derived.Test.YtegjebiocgbmpaaPx0
namespace Go.Proofs.Ytegjebiocgbmpaa.P
open Go.RowKit Go.Proofs.YtegjebiocgbmpaaW.PrintWords Go.Proofs.YtegjebiocgbmpaaW.PrintLast Go.Proofs.YtegjebiocgbmpaaW.PrintMore
attribute [local go_sem] max2_int min2_int max_two min_two max_three min_three max_four min_four   -- for this text's walks alone
set_option linter.unusedVariables false
set_option linter.unusedSimpArgs false

/-! ### spec_l00In: function 30 -/
def spec_l00In.f (a0 : Int) (a1 : Int) (a2 : Int) : Option (Bool) := if a0 ≥ a1 then (some (decide (a0 ≤ a2))) else (some false)
set_option maxHeartbeats 8000000 in
set_option maxRecDepth 100000 in
theorem spec_l00In.calls (a0 : Int) (a1 : Int) (a2 : Int) (r : Bool) (w : World) (h : spec_l00In.f a0 a1 a2 = some r) :
    Calls Try.prog 30 #[.int .i64 a0, .int .i64 a1, .int .i64 a2] w fun e w' => e = .returned (.bool r) ∧ Drawn0 w w' := by
  have H : (if a0 ≥ a1 then (some (decide (a0 ≤ a2))) else (some false)) = some r := h
  clear h
  by_cases c4 : a0 ≥ a1
  · rw [if_pos c4] at H
    have c4b0 : decide (a1 ≤ a0) = true := decide_eq_true c4
    clear c4
    obtain rfl := Option.some.inj H
    go_enter Try.func30, Try.ntmps30
    go_wp2
    go_ret
    exact ⟨by first | rfl | (simp; done) | (simp [*]; done) | (simp [Int.tdiv_eq_ediv_of_nonneg, *]; done), by repeat (first | exact Drawn0.refl _ | apply Drawn0.step)⟩
  · rw [if_neg c4] at H
    have c4b0 : decide (a1 ≤ a0) = false := decide_eq_false c4
    clear c4
    obtain rfl := Option.some.inj H
    go_enter Try.func30, Try.ntmps30
    go_wp2
    go_ret
    exact ⟨by first | rfl | (simp; done) | (simp [*]; done) | (simp [Int.tdiv_eq_ediv_of_nonneg, *]; done), by repeat (first | exact Drawn0.refl _ | apply Drawn0.step)⟩

/-! ### spec_l07Row: function 24 -/
def spec_l07Row.l0 : Nat → List Int → Int → Int → Option (Bool)
  | 0, _, _, _ => none
  | k + 1, x0, x1, x5 => if x5 < (x0.length : Int) then (if 0 ≤ x5 then ((spec_l00In.f (rd x0 x5) 0 x1).bind fun t226 => (if t226 = true then (spec_l07Row.l0 k x0 x1 (wrap64 (x5 + 1))) else (some false))) else (none)) else (if (x0.length : Int) ≥ 1 then (some (decide ((x0.length : Int) ≤ 12))) else (some false))
def spec_l07Row.f (k : Nat) (l0 : List Int) (a1 : Int) : Option (Bool) := spec_l07Row.l0 k l0 a1 0
theorem spec_l07Row.mono_l : ∀ k, (∀ y0 y1 y2, LeO (spec_l07Row.l0 k y0 y1 y2) (spec_l07Row.l0 (k + 1) y0 y1 y2))
  | 0 => fun _ _ _ r h => by simp [spec_l07Row.l0] at h
  | k + 1 => by
    have ih0 := spec_l07Row.mono_l k
    · intro y0 y1 y2
      unfold spec_l07Row.l0
      repeat' first
      | (with_reducible exact ih0 _ _ _)
      | (with_reducible exact LeO.refl _)
      | (with_reducible exact LeO.none _)
      | (with_reducible refine LeO.ite ?_ ?_)
      | (with_reducible refine LeO.bind ?_ (fun _ => ?_))
      | exact ih0 _ _ _
      | exact LeO.none _
      | refine LeO.ite ?_ ?_
      | refine LeO.bind ?_ (fun _ => ?_)
theorem spec_l07Row.mono : ∀ a0 a1 k, LeO (spec_l07Row.f k a0 a1) (spec_l07Row.f (k + 1) a0 a1) := by
  intro a0 a1 k
  have ih0 := spec_l07Row.mono_l k
  unfold spec_l07Row.f
  repeat' first
      | (with_reducible exact ih0 _ _ _)
      | (with_reducible exact LeO.refl _)
      | (with_reducible exact LeO.none _)
      | (with_reducible refine LeO.ite ?_ ?_)
      | (with_reducible refine LeO.bind ?_ (fun _ => ?_))
      | exact ih0 _ _ _
      | exact LeO.none _
      | refine LeO.ite ?_ ?_
      | refine LeO.bind ?_ (fun _ => ?_)
set_option maxHeartbeats 8000000 in
set_option maxRecDepth 100000 in
theorem spec_l07Row.calls (k : Nat) (A0 : Option Addr) (c0 : Nat) (l0 : List Int) (a1 : Int) (r : Bool) (w : World) (hr0 : Kd.C (Kd.int .i64) w A0 l0.length l0) (hc0 : l0.length ≤ c0) (h : spec_l07Row.f k l0 a1 = some r) :
    Calls Try.prog 24 #[.slice A0 l0.length c0, .int .i64 a1] w fun e w' => e = .returned (.bool r) ∧ Drawn0 w w' := by
  have HR0 := Aside0.mk hr0
  have HC0 := Aside0.mk hc0
  clear hr0 hc0
  have H : (spec_l07Row.l0 k l0 a1 0) = some r := h
  clear h
  have H' := Aside0.mk H
  clear H
  go_enter Try.func24, Try.ntmps24
  go_wp2
  go_loopg [5] k (fun kq v5 w' => ∃ (x5_1 : Int), v5 = .int .i64 x5_1 ∧ Aside0 (spec_l07Row.l0 kq l0 a1 x5_1 = some r) ∧ Aside0 (kq ≤ k) ∧ Drawn0 w w')
  case atStart => exact ⟨(0), (by first | rfl | (simp; done) | (simp [*]; done) | (simp [Int.tdiv_eq_ediv_of_nonneg, *]; done)), H', ⟨Nat.le_refl _⟩, by repeat (first | exact Drawn0.refl _ | apply Drawn0.step)⟩
  case round =>
    clear H'
    try clear c2
    try clear p2
    obtain ⟨x5_1, rfl, HA, HK1, ⟨m1, rfl⟩⟩ := hrel
    cases gk with
    | zero => exact absurd HA.out (by simp [spec_l07Row.l0])
    | succ k1 =>
      have H := HA.out
      clear HA
      simp only [spec_l07Row.l0] at H
      by_cases c3 : x5_1 < (l0.length : Int)
      · rw [if_pos c3] at H
        have c3b0 : decide (x5_1 < (l0.length : Int)) = true := decide_eq_true c3
        clear c3
        by_cases c4 : 0 ≤ x5_1
        · rw [if_pos c4] at H
          have c4b0 : decide (0 ≤ x5_1) = true := decide_eq_true c4
          clear c4
          replace H := Option.bind_eq_some_iff.mp H
          obtain ⟨t226, A50, H⟩ := H
          replace H : (if t226 = true then (spec_l07Row.l0 k1 l0 a1 (wrap64 (x5_1 + 1))) else (some false)) = some r := H
          have A5 := Aside0.mk A50
          clear A50
          by_cases c6 : t226 = true
          · subst c6
            have H1 : (spec_l07Row.l0 k1 l0 a1 (wrap64 (x5_1 + 1))) = some r := by rw [if_pos rfl] at H; exact H
            clear H
            have H := H1
            clear H1
            have H' := Aside0.mk H
            clear H
            have p225 : 0 ≤ (x5_1 : Int) := of_decide_eq_true (by first | (with_reducible assumption) | assumption)
            have q225 : x5_1 < (l0.length : Int) := of_decide_eq_true (by first | (with_reducible assumption) | assumption)
            obtain ⟨ad225, e225, hx225_0⟩ := Kd.at_int HR0.out x5_1 p225 q225
            cases e225
            replace p225 := eq_true p225
            replace q225 := eq_true q225
            go_wp2_with (first | ((with_reducible refine gate_callee (f := 30) rfl ?_); refine goesL_ (some 17) rfl rfl Try.func30 (by kernel_rfl) rfl #[.int .i64 (rd l0 x5_1), .int .i64 0, .int .i64 a1] rfl (by (try simp only [List.map_toArray, List.map_cons, List.map_nil]); first | done | rfl | (simp only [List.length_drop, List.length_take]; rfl)) ?_; (with_reducible refine (spec_l00In.calls (rd l0 x5_1) 0 a1 true _ A5.out).mono ?_); rintro e w' ⟨rfl, ⟨nd, rfl⟩⟩; refine ⟨_, rfl, ?_⟩))
            go_roundg k1
            case measure => have := HK1.out; omega
            case rel => exact ⟨(wrap64 (x5_1 + 1)), (by first | rfl | (simp; done) | (simp [*]; done) | (simp [Int.tdiv_eq_ediv_of_nonneg, *]; done)), H', ⟨by have := HK1.out; omega⟩, by repeat (first | exact Drawn0.refl _ | apply Drawn0.step)⟩
          · replace c6 := Bool.eq_false_iff.mpr c6
            subst c6
            have H1 : (some false) = some r := by rw [if_neg (show ¬ (false = true) by decide)] at H; exact H
            clear H
            have H := H1
            clear H1
            obtain rfl := Option.some.inj H
            have p225 : 0 ≤ (x5_1 : Int) := of_decide_eq_true (by first | (with_reducible assumption) | assumption)
            have q225 : x5_1 < (l0.length : Int) := of_decide_eq_true (by first | (with_reducible assumption) | assumption)
            obtain ⟨ad225, e225, hx225_0⟩ := Kd.at_int HR0.out x5_1 p225 q225
            cases e225
            replace p225 := eq_true p225
            replace q225 := eq_true q225
            go_wp2_with (first | ((with_reducible refine gate_callee (f := 30) rfl ?_); refine goesL_ (some 17) rfl rfl Try.func30 (by kernel_rfl) rfl #[.int .i64 (rd l0 x5_1), .int .i64 0, .int .i64 a1] rfl (by (try simp only [List.map_toArray, List.map_cons, List.map_nil]); first | done | rfl | (simp only [List.length_drop, List.length_take]; rfl)) ?_; (with_reducible refine (spec_l00In.calls (rd l0 x5_1) 0 a1 false _ A5.out).mono ?_); rintro e w' ⟨rfl, ⟨nd, rfl⟩⟩; refine ⟨_, rfl, ?_⟩))
            go_ret
            exact ⟨by first | rfl | (simp; done) | (simp [*]; done) | (simp [Int.tdiv_eq_ediv_of_nonneg, *]; done), by repeat (first | exact Drawn0.refl _ | apply Drawn0.step)⟩
        · rw [if_neg c4] at H
          exact absurd H (by simp)
      · rw [if_neg c3] at H
        have c3b0 : decide (x5_1 < (l0.length : Int)) = false := decide_eq_false c3
        clear c3
        by_cases c7 : (l0.length : Int) ≥ 1
        · rw [if_pos c7] at H
          have c7b0 : decide (1 ≤ (l0.length : Int)) = true := decide_eq_true c7
          have c7b1 : decide (1 ≤ l0.length) = true := decide_eq_true (by omega)
          clear c7
          obtain rfl := Option.some.inj H
          go_wp2
          go_ret
          exact ⟨by first | rfl | (simp; done) | (simp [*]; done) | (simp [Int.tdiv_eq_ediv_of_nonneg, *]; done), by repeat (first | exact Drawn0.refl _ | apply Drawn0.step)⟩
        · rw [if_neg c7] at H
          have c7b0 : decide (1 ≤ (l0.length : Int)) = false := decide_eq_false c7
          have c7b1 : decide (1 ≤ l0.length) = false := decide_eq_false (by omega)
          clear c7
          obtain rfl := Option.some.inj H
          go_wp2
          go_ret
          exact ⟨by first | rfl | (simp; done) | (simp [*]; done) | (simp [Int.tdiv_eq_ediv_of_nonneg, *]; done), by repeat (first | exact Drawn0.refl _ | apply Drawn0.step)⟩

/-! ### spec_l07Rest: function 31 -/
mutual
def spec_l07Rest.l0 : Nat → List Int → List (List (List Int)) → Int → Int → Int → Int → Int → Option (Int)
  | 0, _, _, _, _, _, _, _ => none
  | k + 1, x0, x1, x2, x3, x4, x11, x12 => if x12 ≤ 6 then (if 0 ≤ (wrap64 (x2 + 1)) then (if (wrap64 (x2 + 1)) < (x1.length : Int) then (if 0 ≤ x4 then (if x4 < ((rd_L3 x1 (wrap64 (x2 + 1))).length : Int) then (if 0 ≤ x12 then (if x12 < ((rd_L2 (rd_L3 x1 (wrap64 (x2 + 1))) x4).length : Int) then (if (rd (rd_L2 (rd_L3 x1 (wrap64 (x2 + 1))) x4) x12) < 0 then (spec_l07Rest.j1 k x0 x1 x2 x3 x4 x11 x12 (rd (rd_L2 (rd_L3 x1 (wrap64 (x2 + 1))) x4) x12) true) else (if 0 ≤ x2 then (if x2 < (x0.length : Int) then (spec_l07Rest.j1 k x0 x1 x2 x3 x4 x11 x12 (rd (rd_L2 (rd_L3 x1 (wrap64 (x2 + 1))) x4) x12) (decide ((wrap64 ((wrap64 (x3 + (wrap64 (2 * x4)))) + x12)) < (rd x0 x2)))) else (none)) else (none))) else (none)) else (none)) else (none)) else (none)) else (none)) else (none)) else (some x11)
def spec_l07Rest.j1 : Nat → List Int → List (List (List Int)) → Int → Int → Int → Int → Int → Int → Bool → Option (Int)
  | 0, _, _, _, _, _, _, _, _, _ => none
  | k + 1, x0, x1, x2, x3, x4, x11, x12, x13, x49 => if x49 = true then (spec_l07Rest.l0 k x0 x1 x2 x3 x4 x11 (wrap64 (x12 + 1))) else (if x11 < 0 then (spec_l07Rest.l0 k x0 x1 x2 x3 x4 (wrap64 (x4 + x13)) (wrap64 (x12 + 1))) else (if (wrap64 (x4 + x13)) < x11 then (spec_l07Rest.l0 k x0 x1 x2 x3 x4 (wrap64 (x4 + x13)) (wrap64 (x12 + 1))) else (spec_l07Rest.l0 k x0 x1 x2 x3 x4 x11 (wrap64 (x12 + 1)))))
end
def spec_l07Rest.f (k : Nat) (l0 : List Int) (l1 : List (List (List Int))) (a2 : Int) (a3 : Int) (a4 : Int) : Option (Int) := if a2 = (l0.length : Int) then (if a4 > 0 then (some (-1)) else (some 0)) else (spec_l07Rest.l0 k l0 l1 a2 a3 a4 (-1) 0)
theorem spec_l07Rest.mono_l : ∀ k, (∀ y0 y1 y2 y3 y4 y5 y6, LeO (spec_l07Rest.l0 k y0 y1 y2 y3 y4 y5 y6) (spec_l07Rest.l0 (k + 1) y0 y1 y2 y3 y4 y5 y6)) ∧ (∀ y0 y1 y2 y3 y4 y5 y6 y7 y8, LeO (spec_l07Rest.j1 k y0 y1 y2 y3 y4 y5 y6 y7 y8) (spec_l07Rest.j1 (k + 1) y0 y1 y2 y3 y4 y5 y6 y7 y8))
  | 0 => ⟨fun _ _ _ _ _ _ _ r h => by simp [spec_l07Rest.l0] at h, fun _ _ _ _ _ _ _ _ _ r h => by simp [spec_l07Rest.j1] at h⟩
  | k + 1 => by
    obtain ⟨ih0, ih1⟩ := spec_l07Rest.mono_l k
    refine ⟨?_, ?_⟩
    · intro y0 y1 y2 y3 y4 y5 y6
      unfold spec_l07Rest.l0
      repeat' first
      | (with_reducible exact ih0 _ _ _ _ _ _ _)
      | (with_reducible exact ih1 _ _ _ _ _ _ _ _ _)
      | (with_reducible exact LeO.refl _)
      | (with_reducible exact LeO.none _)
      | (with_reducible refine LeO.ite ?_ ?_)
      | (with_reducible refine LeO.bind ?_ (fun _ => ?_))
      | exact ih0 _ _ _ _ _ _ _
      | exact ih1 _ _ _ _ _ _ _ _ _
      | exact LeO.none _
      | refine LeO.ite ?_ ?_
      | refine LeO.bind ?_ (fun _ => ?_)
    · intro y0 y1 y2 y3 y4 y5 y6 y7 y8
      unfold spec_l07Rest.j1
      repeat' first
      | (with_reducible exact ih0 _ _ _ _ _ _ _)
      | (with_reducible exact ih1 _ _ _ _ _ _ _ _ _)
      | (with_reducible exact LeO.refl _)
      | (with_reducible exact LeO.none _)
      | (with_reducible refine LeO.ite ?_ ?_)
      | (with_reducible refine LeO.bind ?_ (fun _ => ?_))
      | exact ih0 _ _ _ _ _ _ _
      | exact ih1 _ _ _ _ _ _ _ _ _
      | exact LeO.none _
      | refine LeO.ite ?_ ?_
      | refine LeO.bind ?_ (fun _ => ?_)
theorem spec_l07Rest.mono : ∀ a0 a1 a2 a3 a4 k, LeO (spec_l07Rest.f k a0 a1 a2 a3 a4) (spec_l07Rest.f (k + 1) a0 a1 a2 a3 a4) := by
  intro a0 a1 a2 a3 a4 k
  obtain ⟨ih0, ih1⟩ := spec_l07Rest.mono_l k
  unfold spec_l07Rest.f
  repeat' first
      | (with_reducible exact ih0 _ _ _ _ _ _ _)
      | (with_reducible exact ih1 _ _ _ _ _ _ _ _ _)
      | (with_reducible exact LeO.refl _)
      | (with_reducible exact LeO.none _)
      | (with_reducible refine LeO.ite ?_ ?_)
      | (with_reducible refine LeO.bind ?_ (fun _ => ?_))
      | exact ih0 _ _ _ _ _ _ _
      | exact ih1 _ _ _ _ _ _ _ _ _
      | exact LeO.none _
      | refine LeO.ite ?_ ?_
      | refine LeO.bind ?_ (fun _ => ?_)
set_option maxHeartbeats 8000000 in
set_option maxRecDepth 100000 in
theorem spec_l07Rest.calls (k : Nat) (A0 : Option Addr) (c0 : Nat) (l0 : List Int) (A1 : Option Addr) (c1 : Nat) (l1 : List (List (List Int))) (a2 : Int) (a3 : Int) (a4 : Int) (r : Int) (w : World) (hr0 : Kd.C (Kd.int .i64) w A0 l0.length l0) (hc0 : l0.length ≤ c0) (hr1 : Kd.C (Kd.slice 24 (Kd.slice 2 (Kd.int .i64))) w A1 l1.length l1) (hc1 : l1.length ≤ c1) (h : spec_l07Rest.f k l0 l1 a2 a3 a4 = some r) :
    Calls Try.prog 31 #[.slice A0 l0.length c0, .slice A1 l1.length c1, .int .i64 a2, .int .i64 a3, .int .i64 a4] w fun e w' => e = .returned (.int .i64 r) ∧ Drawn0 w w' := by
  have HR0 := Aside0.mk hr0
  have HC0 := Aside0.mk hc0
  clear hr0 hc0
  have HR1 := Aside0.mk hr1
  have HC1 := Aside0.mk hc1
  clear hr1 hc1
  have H : (if a2 = (l0.length : Int) then (if a4 > 0 then (some (-1)) else (some 0)) else (spec_l07Rest.l0 k l0 l1 a2 a3 a4 (-1) 0)) = some r := h
  clear h
  by_cases c6 : a2 = (l0.length : Int)
  · rw [if_pos c6] at H
    have c6b0 : (a2 == (l0.length : Int)) = true := beq_iff_eq.mpr c6
    have c6b1 : (a2 != (l0.length : Int)) = false := bne_eq_false_iff_eq.mpr c6
    clear c6
    by_cases c7 : a4 > 0
    · rw [if_pos c7] at H
      have c7b0 : decide (0 < a4) = true := decide_eq_true c7
      clear c7
      obtain rfl := Option.some.inj H
      go_enter Try.func31, Try.ntmps31
      go_wp2
      go_ret
      exact ⟨by first | rfl | (simp; done) | (simp [*]; done) | (simp [Int.tdiv_eq_ediv_of_nonneg, *]; done), by repeat (first | exact Drawn0.refl _ | apply Drawn0.step)⟩
    · rw [if_neg c7] at H
      have c7b0 : decide (0 < a4) = false := decide_eq_false c7
      clear c7
      obtain rfl := Option.some.inj H
      go_enter Try.func31, Try.ntmps31
      go_wp2
      go_ret
      exact ⟨by first | rfl | (simp; done) | (simp [*]; done) | (simp [Int.tdiv_eq_ediv_of_nonneg, *]; done), by repeat (first | exact Drawn0.refl _ | apply Drawn0.step)⟩
  · rw [if_neg c6] at H
    have c6b0 : (a2 == (l0.length : Int)) = false := beq_eq_false_iff_ne.mpr c6
    have c6b1 : (a2 != (l0.length : Int)) = true := bne_iff_ne.mpr c6
    have H' := Aside0.mk H
    clear H
    go_enter Try.func31, Try.ntmps31
    go_wp2
    go_loopg [11, 12] k (fun kq v11 v12 w' => ∃ (x11_1 : Int) (x12_1 : Int), v11 = .int .i64 x11_1 ∧ v12 = .int .i64 x12_1 ∧ Aside0 (spec_l07Rest.l0 kq l0 l1 a2 a3 a4 x11_1 x12_1 = some r) ∧ Aside0 (kq ≤ k) ∧ Drawn0 w w')
    case atStart => exact ⟨((-1)), (0), (by first | rfl | (simp; done) | (simp [*]; done) | (simp [Int.tdiv_eq_ediv_of_nonneg, *]; done)), (by first | rfl | (simp; done) | (simp [*]; done) | (simp [Int.tdiv_eq_ediv_of_nonneg, *]; done)), H', ⟨Nat.le_refl _⟩, by repeat (first | exact Drawn0.refl _ | apply Drawn0.step)⟩
    case round =>
      clear H'
      try clear c1
      try clear p2
      try clear c3
      try clear c6
      try clear c6b0
      try clear c6b1
      try clear c7
      try clear c7b0
      obtain ⟨x11_1, x12_1, rfl, rfl, HA, HK1, ⟨m1, rfl⟩⟩ := hrel
      cases gk with
      | zero => exact absurd HA.out (by simp [spec_l07Rest.l0])
      | succ k1 =>
        have H := HA.out
        clear HA
        simp only [spec_l07Rest.l0] at H
        by_cases c8 : x12_1 ≤ 6
        · rw [if_pos c8] at H
          have c8b0 : decide (x12_1 ≤ 6) = true := decide_eq_true c8
          clear c8
          obtain ⟨ji9, hji9⟩ : ∃ j_ : Int, (wrap64 (a2 + 1)) = j_ := ⟨_, rfl⟩
          replace H : (if 0 ≤ (ji9) then (if (ji9) < (l1.length : Int) then (if 0 ≤ a4 then (if a4 < ((rd_L3 l1 (ji9)).length : Int) then (if 0 ≤ x12_1 then (if x12_1 < ((rd_L2 (rd_L3 l1 (ji9)) a4).length : Int) then (if (rd (rd_L2 (rd_L3 l1 (ji9)) a4) x12_1) < 0 then (spec_l07Rest.j1 k1 l0 l1 a2 a3 a4 x11_1 x12_1 (rd (rd_L2 (rd_L3 l1 (ji9)) a4) x12_1) true) else (if 0 ≤ a2 then (if a2 < (l0.length : Int) then (spec_l07Rest.j1 k1 l0 l1 a2 a3 a4 x11_1 x12_1 (rd (rd_L2 (rd_L3 l1 (ji9)) a4) x12_1) (decide ((wrap64 ((wrap64 (a3 + (wrap64 (2 * a4)))) + x12_1)) < (rd l0 a2)))) else (none)) else (none))) else (none)) else (none)) else (none)) else (none)) else (none)) else (none)) = some r := by first | (rw [hji9] at H; exact H) | (simp only [hji9] at H ⊢; exact H)
          have hji9w : (IntKind.i64.wrap (a2 + 1)) = ji9 := (i64_w _).trans hji9
          by_cases c10 : 0 ≤ (ji9)
          · rw [if_pos c10] at H
            have c10b0 : decide (0 ≤ (ji9)) = true := decide_eq_true c10
            clear c10
            by_cases c11 : (ji9) < (l1.length : Int)
            · rw [if_pos c11] at H
              have c11b0 : decide ((ji9) < (l1.length : Int)) = true := decide_eq_true c11
              clear c11
              by_cases c12 : 0 ≤ a4
              · rw [if_pos c12] at H
                have c12b0 : decide (0 ≤ a4) = true := decide_eq_true c12
                clear c12
                by_cases c13 : a4 < ((rd_L3 l1 (ji9)).length : Int)
                · rw [if_pos c13] at H
                  have c13b0 : decide (a4 < ((rd_L3 l1 (ji9)).length : Int)) = true := decide_eq_true c13
                  clear c13
                  by_cases c14 : 0 ≤ x12_1
                  · rw [if_pos c14] at H
                    have c14b0 : decide (0 ≤ x12_1) = true := decide_eq_true c14
                    clear c14
                    by_cases c15 : x12_1 < ((rd_L2 (rd_L3 l1 (ji9)) a4).length : Int)
                    · rw [if_pos c15] at H
                      have c15b0 : decide (x12_1 < ((rd_L2 (rd_L3 l1 (ji9)) a4).length : Int)) = true := decide_eq_true c15
                      clear c15
                      have HC16 := Aside0.mk H
                      clear H
                      have p227 : 0 ≤ ((ji9) : Int) := of_decide_eq_true (by first | (with_reducible assumption) | assumption)
                      have q227 : (ji9) < (l1.length : Int) := of_decide_eq_true (by first | (with_reducible assumption) | assumption)
                      obtain ⟨ad227, A227_0, c227_0, e227, hx227_0, hl227_0, hi227_0⟩ := at_L3 HR1.out (ji9) p227 q227
                      cases e227
                      have HR227_0 := Aside0.mk hi227_0
                      have HC227_0 := Aside0.mk hl227_0
                      clear hi227_0 hl227_0
                      replace p227 := eq_true p227
                      replace q227 := eq_true q227
                      have p228 : 0 ≤ (a4 : Int) := of_decide_eq_true (by first | (with_reducible assumption) | assumption)
                      have q228 : a4 < ((rd_L3 l1 (ji9)).length : Int) := of_decide_eq_true (by first | (with_reducible assumption) | assumption)
                      obtain ⟨ad228, A228_0, c228_0, e228, hx228_0, hl228_0, hi228_0⟩ := at_L2 HR227_0.out a4 p228 q228
                      cases e228
                      have HR228_0 := Aside0.mk hi228_0
                      have HC228_0 := Aside0.mk hl228_0
                      clear hi228_0 hl228_0
                      replace p228 := eq_true p228
                      replace q228 := eq_true q228
                      have p229 : 0 ≤ (x12_1 : Int) := of_decide_eq_true (by first | (with_reducible assumption) | assumption)
                      have q229 : x12_1 < ((rd_L2 (rd_L3 l1 (ji9)) a4).length : Int) := of_decide_eq_true (by first | (with_reducible assumption) | assumption)
                      obtain ⟨ad229, e229, hx229_0⟩ := Kd.at_int HR228_0.out x12_1 p229 q229
                      cases e229
                      replace p229 := eq_true p229
                      replace q229 := eq_true q229
                      go_upto_region 10 with (fail)
                      go_cut [49] (fun v49 wc => ∃ (kq : Nat) (x49_15 : Bool), v49 = .bool x49_15 ∧ Aside0 (spec_l07Rest.j1 kq l0 l1 a2 a3 a4 x11_1 x12_1 (rd (rd_L2 (rd_L3 l1 (ji9)) a4) x12_1) x49_15 = some r) ∧ Aside0 (kq ≤ k1) ∧ Drawn0 w wc)
                      case first =>
                        have H := HC16.out
                        clear HC16
                        by_cases c17 : (rd (rd_L2 (rd_L3 l1 (ji9)) a4) x12_1) < 0
                        · rw [if_pos c17] at H
                          have c17b0 : decide ((rd (rd_L2 (rd_L3 l1 (ji9)) a4) x12_1) < 0) = true := decide_eq_true c17
                          clear c17
                          (first | rw [c17b0] | (simp only [i64_w, i32_w]; rw [c17b0]) | skip)
                          have H' := Aside0.mk H
                          clear H
                          go_wp2
                          go_meet
                          case rel => exact ⟨_, (true), (by first | rfl | (simp; done) | (simp [*]; done) | (simp [Int.tdiv_eq_ediv_of_nonneg, *]; done)), H', ⟨by have := HK1.out; first | omega | exact Nat.le_refl _⟩, by repeat (first | exact Drawn0.refl _ | apply Drawn0.step)⟩
                        · rw [if_neg c17] at H
                          have c17b0 : decide ((rd (rd_L2 (rd_L3 l1 (ji9)) a4) x12_1) < 0) = false := decide_eq_false c17
                          clear c17
                          (first | rw [c17b0] | (simp only [i64_w, i32_w]; rw [c17b0]) | skip)
                          by_cases c18 : 0 ≤ a2
                          · rw [if_pos c18] at H
                            have c18b0 : decide (0 ≤ a2) = true := decide_eq_true c18
                            clear c18
                            by_cases c19 : a2 < (l0.length : Int)
                            · rw [if_pos c19] at H
                              have c19b0 : decide (a2 < (l0.length : Int)) = true := decide_eq_true c19
                              clear c19
                              have H' := Aside0.mk H
                              clear H
                              have p230 : 0 ≤ (a2 : Int) := of_decide_eq_true (by first | (with_reducible assumption) | assumption)
                              have q230 : a2 < (l0.length : Int) := of_decide_eq_true (by first | (with_reducible assumption) | assumption)
                              obtain ⟨ad230, e230, hx230_0⟩ := Kd.at_int HR0.out a2 p230 q230
                              cases e230
                              replace p230 := eq_true p230
                              replace q230 := eq_true q230
                              go_wp2
                              go_meet
                              case rel => exact ⟨_, (decide ((wrap64 ((wrap64 (a3 + (wrap64 (2 * a4)))) + x12_1)) < (rd l0 a2))), (by first | rfl | (simp; done) | (simp [*]; done) | (simp [Int.tdiv_eq_ediv_of_nonneg, *]; done)), H', ⟨by have := HK1.out; first | omega | exact Nat.le_refl _⟩, by repeat (first | exact Drawn0.refl _ | apply Drawn0.step)⟩
                            · rw [if_neg c19] at H
                              exact absurd H (by simp)
                          · rw [if_neg c18] at H
                            exact absurd H (by simp)
                      case rest =>
                        clear HC16
                        try clear c1
                        try clear c2
                        try clear p2
                        try clear q2
                        try clear hx2
                        try clear c3
                        try clear c6
                        try clear c6b0
                        try clear c6b1
                        try clear p6
                        try clear c7
                        try clear c7b0
                        try clear c8
                        try clear c8b0
                        try clear c10
                        try clear c10b0
                        try clear c11
                        try clear c11b0
                        try clear c12
                        try clear c12b0
                        try clear c13
                        try clear c13b0
                        try clear c14
                        try clear c14b0
                        try clear c15
                        try clear c15b0
                        try clear c17
                        try clear c17b0
                        try clear c18
                        try clear c18b0
                        try clear c19
                        try clear c19b0
                        try clear hx227_0
                        try clear hx228_0
                        try clear hx229_0
                        try clear hx230_0
                        try clear p2
                        try clear p227
                        try clear p228
                        try clear p229
                        try clear p230
                        try clear q227
                        try clear q228
                        try clear q229
                        try clear q230
                        obtain ⟨kq, x49_15, rfl, HA, HJ15, ⟨mc15, rfl⟩⟩ := hcut
                        cases kq with
                        | zero => exact absurd HA.out (by simp [spec_l07Rest.j1])
                        | succ kj15 =>
                          have H := HA.out
                          clear HA
                          simp only [spec_l07Rest.j1] at H
                          by_cases c20 : x49_15 = true
                          · subst c20
                            have H1 : (spec_l07Rest.l0 kj15 l0 l1 a2 a3 a4 x11_1 (wrap64 (x12_1 + 1))) = some r := by rw [if_pos rfl] at H; exact H
                            clear H
                            have H := H1
                            clear H1
                            have H' := Aside0.mk H
                            clear H
                            go_wp2
                            go_roundg kj15
                            case measure => have := HK1.out; have := HJ15.out; omega
                            case rel => exact ⟨(x11_1), (wrap64 (x12_1 + 1)), (by first | rfl | (simp; done) | (simp [*]; done) | (simp [Int.tdiv_eq_ediv_of_nonneg, *]; done)), (by first | rfl | (simp; done) | (simp [*]; done) | (simp [Int.tdiv_eq_ediv_of_nonneg, *]; done)), H', ⟨by have := HK1.out; have := HJ15.out; omega⟩, by repeat (first | exact Drawn0.refl _ | apply Drawn0.step)⟩
                          · replace c20 := Bool.eq_false_iff.mpr c20
                            subst c20
                            have H1 : (if x11_1 < 0 then (spec_l07Rest.l0 kj15 l0 l1 a2 a3 a4 (wrap64 (a4 + (rd (rd_L2 (rd_L3 l1 (ji9)) a4) x12_1))) (wrap64 (x12_1 + 1))) else (if (wrap64 (a4 + (rd (rd_L2 (rd_L3 l1 (ji9)) a4) x12_1))) < x11_1 then (spec_l07Rest.l0 kj15 l0 l1 a2 a3 a4 (wrap64 (a4 + (rd (rd_L2 (rd_L3 l1 (ji9)) a4) x12_1))) (wrap64 (x12_1 + 1))) else (spec_l07Rest.l0 kj15 l0 l1 a2 a3 a4 x11_1 (wrap64 (x12_1 + 1))))) = some r := by rw [if_neg (show ¬ (false = true) by decide)] at H; exact H
                            clear H
                            have H := H1
                            clear H1
                            by_cases c21 : x11_1 < 0
                            · rw [if_pos c21] at H
                              have c21b0 : decide (x11_1 < 0) = true := decide_eq_true c21
                              clear c21
                              have H' := Aside0.mk H
                              clear H
                              go_wp2
                              go_roundg kj15
                              case measure => have := HK1.out; have := HJ15.out; omega
                              case rel => exact ⟨(wrap64 (a4 + (rd (rd_L2 (rd_L3 l1 (ji9)) a4) x12_1))), (wrap64 (x12_1 + 1)), (by first | rfl | (simp; done) | (simp only [← hji9] <;> (first | rfl | simp)) | (simp [*]; done)), (by first | rfl | (simp; done) | (simp [*]; done) | (simp [Int.tdiv_eq_ediv_of_nonneg, *]; done)), H', ⟨by have := HK1.out; have := HJ15.out; omega⟩, by repeat (first | exact Drawn0.refl _ | apply Drawn0.step)⟩
                            · rw [if_neg c21] at H
                              have c21b0 : decide (x11_1 < 0) = false := decide_eq_false c21
                              clear c21
                              by_cases c22 : (wrap64 (a4 + (rd (rd_L2 (rd_L3 l1 (ji9)) a4) x12_1))) < x11_1
                              · rw [if_pos c22] at H
                                have c22b0 : decide ((wrap64 (a4 + (rd (rd_L2 (rd_L3 l1 (ji9)) a4) x12_1))) < x11_1) = true := decide_eq_true c22
                                clear c22
                                have H' := Aside0.mk H
                                clear H
                                go_wp2
                                go_roundg kj15
                                case measure => have := HK1.out; have := HJ15.out; omega
                                case rel => exact ⟨(wrap64 (a4 + (rd (rd_L2 (rd_L3 l1 (ji9)) a4) x12_1))), (wrap64 (x12_1 + 1)), (by first | rfl | (simp; done) | (simp only [← hji9] <;> (first | rfl | simp)) | (simp [*]; done)), (by first | rfl | (simp; done) | (simp [*]; done) | (simp [Int.tdiv_eq_ediv_of_nonneg, *]; done)), H', ⟨by have := HK1.out; have := HJ15.out; omega⟩, by repeat (first | exact Drawn0.refl _ | apply Drawn0.step)⟩
                              · rw [if_neg c22] at H
                                have c22b0 : decide ((wrap64 (a4 + (rd (rd_L2 (rd_L3 l1 (ji9)) a4) x12_1))) < x11_1) = false := decide_eq_false c22
                                clear c22
                                have H' := Aside0.mk H
                                clear H
                                go_wp2
                                go_roundg kj15
                                case measure => have := HK1.out; have := HJ15.out; omega
                                case rel => exact ⟨(x11_1), (wrap64 (x12_1 + 1)), (by first | rfl | (simp; done) | (simp [*]; done) | (simp [Int.tdiv_eq_ediv_of_nonneg, *]; done)), (by first | rfl | (simp; done) | (simp [*]; done) | (simp [Int.tdiv_eq_ediv_of_nonneg, *]; done)), H', ⟨by have := HK1.out; have := HJ15.out; omega⟩, by repeat (first | exact Drawn0.refl _ | apply Drawn0.step)⟩
                    · rw [if_neg c15] at H
                      exact absurd H (by simp)
                  · rw [if_neg c14] at H
                    exact absurd H (by simp)
                · rw [if_neg c13] at H
                  exact absurd H (by simp)
              · rw [if_neg c12] at H
                exact absurd H (by simp)
            · rw [if_neg c11] at H
              exact absurd H (by simp)
          · rw [if_neg c10] at H
            exact absurd H (by simp)
        · rw [if_neg c8] at H
          have c8b0 : decide (x12_1 ≤ 6) = false := decide_eq_false c8
          clear c8
          obtain rfl := Option.some.inj H
          go_wp2
          go_ret
          exact ⟨by first | rfl | (simp; done) | (simp [*]; done) | (simp [Int.tdiv_eq_ediv_of_nonneg, *]; done), by repeat (first | exact Drawn0.refl _ | apply Drawn0.step)⟩

/-! ### spec_l07Fewest: function 25 -/
structure BestAt (w : World) (base G cap : Nat) (OK : Nat → Nat → Prop) (cs : List Value) (T : List (List (List Int))) : Prop where
  own : w.ownsRow base 46 1 (.slice (some ⟨G, 0, none⟩) T.length cap) T.length cs
  elt : ∀ j x u, T[j]? = some x → cs[j]? = some u → Kd.R (Kd.slice 2 (Kd.int .i64)) 24 w base (OK j) u x
theorem drop_one (cs : List Value) (j : Nat) (u : Value) (h : cs[j]? = some u) : (cs.drop (j * 1)).take 1 = [u] := by
  rw [Nat.mul_one, List.drop_eq_getElem_cons (List.getElem?_eq_some_iff.mp h).1, (List.getElem?_eq_some_iff.mp h).2]
  rfl
theorem BestAt.of_R {w : World} {base G cap : Nat} {ok : Nat → Prop} {T : List (List (List Int))} (h : Kd.R (Kd.slice 24 (Kd.slice 2 (Kd.int .i64))) 46 w base ok (.slice (some ⟨G, 0, none⟩) T.length cap) T) : ∃ cs, BestAt w base G cap (fun _ k => ok k ∧ some k ≠ some G) cs T := by
  obtain ⟨h0, inner, hown, hr⟩ := h
  refine ⟨inner, hown, fun j x u hx hu => ?_⟩
  obtain ⟨v, e, hR⟩ := hr.2 j x hx
  rw [show (Kd.slice 24 (Kd.slice 2 (Kd.int .i64))).sz = 1 from rfl, drop_one inner j u hu] at e
  cases e
  exact Kd.R_mono hR (fun k hk => ⟨hk.1, hk.2⟩)
theorem BestAt.to_R {w : World} {base G cap : Nat} {T : List (List (List Int))} {cs : List Value} (h : BestAt w base G cap (fun _ k => k ≠ G) cs T) : Kd.R (Kd.slice 24 (Kd.slice 2 (Kd.int .i64))) 46 w base (fun _ => True) (.slice (some ⟨G, 0, none⟩) T.length cap) T := by
  refine ⟨fun _ _ => trivial, cs, h.own, h.own.1, fun j x hx => ?_⟩
  have hl := h.own.1
  rw [Nat.mul_one] at hl
  have hj : j < cs.length := by rw [hl]; exact (List.getElem?_eq_some_iff.mp hx).1
  have hu : cs[j]? = some cs[j] := List.getElem?_eq_getElem hj
  refine ⟨cs[j], ?_, Kd.R_mono (h.elt j x _ hx hu) (fun k hk => ⟨trivial, fun e => hk (by simpa [Value.ownBlock] using e)⟩)⟩
  rw [show (Kd.slice 24 (Kd.slice 2 (Kd.int .i64))).sz = 1 from rfl, drop_one cs j _ hu]
theorem BestAt.mono {w : World} {base G cap : Nat} {OK OK' : Nat → Nat → Prop} {T : List (List (List Int))} {cs : List Value} (h : BestAt w base G cap OK cs T) (hok : ∀ j k, OK j k → k < w.heap.size → OK' j k) : BestAt w base G cap OK' cs T :=
  ⟨h.own, fun j x u hx hu => Kd.R_mono (Kd.R_bound (h.elt j x u hx hu)) (fun k hk => hok j k hk.1 hk.2.2.1)⟩
theorem BestAt.move {w w1 : World} {base G cap : Nat} {OK : Nat → Nat → Prop} {T : List (List (List Int))} {cs : List Value} (h : BestAt w base G cap OK cs T) (hG : w1.heap[G]? = w.heap[G]?) (hm : ∀ j k, OK j k → k < w.heap.size → w1.heap[k]? = w.heap[k]?) : BestAt w1 base G cap OK cs T :=
  ⟨own_move h.own (fun k hk => by rw [show k = G from (by simpa [Value.ownBlock] using hk.symm)]; exact hG), fun j x u hx hu => Kd.R_step (h.elt j x u hx hu) (fun k hk hlt => hm j k hk hlt)⟩
theorem BestAt.below {w w1 : World} {base G cap : Nat} {OK : Nat → Nat → Prop} {T : List (List (List Int))} {cs : List Value} (h : BestAt w base G cap OK cs T) (hG : G < w.heap.size) (hb : Below w.heap.size w w1) : BestAt w1 base G cap OK cs T :=
  h.move (hb.block G hG) (fun _ k _ hlt => hb.block k hlt)
theorem BestAt.upd {w w1 : World} {base G cap : Nat} {OK : Nat → Nat → Prop} {T : List (List (List Int))} {cs : List Value} (h : BestAt w base G cap OK cs T) (i : Nat) (u0 : Value) (hu0 : cs[i]? = some u0) (x0 : List (List Int)) (hG : w1.heap[G]? = w.heap[G]?) (hm : ∀ j k, j ≠ i → OK j k → k < w.heap.size → w1.heap[k]? = w.heap[k]?) (hR : Kd.R (Kd.slice 2 (Kd.int .i64)) 24 w1 base (OK i) u0 x0) : BestAt w1 base G cap OK cs (T.set i x0) := by
  refine ⟨by rw [List.length_set]; exact own_move h.own (fun k hk => by rw [show k = G from (by simpa [Value.ownBlock] using hk.symm)]; exact hG), fun j x u hx hu => ?_⟩
  by_cases e : j = i
  · subst e
    rw [hu0] at hu
    cases hu
    rw [List.getElem?_set_self (by have := (List.getElem?_eq_some_iff.mp hx).1; rwa [List.length_set] at this)] at hx
    cases hx
    exact hR
  · rw [List.getElem?_set_ne (fun q => e q.symm)] at hx
    exact Kd.R_step (h.elt j x u hx hu) (fun k hk hlt => hm j k e hk hlt)
theorem BestAt.put {w : World} {base G cap : Nat} {OK OK' : Nat → Nat → Prop} {T : List (List (List Int))} {cs : List Value} (h : BestAt w base G cap OK cs T) (i : Nat) (u0 : Value) (x0 : List (List Int)) (hok : ∀ j k, OK j k → k ≠ G) (hokm : ∀ j k, j ≠ i → OK j k → OK' j k) (hok' : ∀ k, OK' i k → k ≠ G) (hR : Kd.R (Kd.slice 2 (Kd.int .i64)) 24 w base (OK' i) u0 x0) :
    BestAt (w.setCell ⟨G, i, none⟩ u0) base G cap OK' (cs.set i u0) (T.set i x0) := by
  have hs := (own_store_of (enc := id) (xs := cs) (by simpa [encs] using h.own) (i : Int) u0).1
  refine ⟨by rw [List.length_set]; simpa [encs] using hs, fun j x u hx hu => ?_⟩
  by_cases e : j = i
  · subst e
    rw [List.getElem?_set_self (by have := (List.getElem?_eq_some_iff.mp hx).1; rwa [List.length_set] at this)] at hx
    rw [List.getElem?_set_self (by have := (List.getElem?_eq_some_iff.mp hu).1; rwa [List.length_set] at this)] at hu
    cases hx
    cases hu
    exact Kd.R_far hR (fun q hq => hok' q hq) _
  · rw [List.getElem?_set_ne (fun q => e q.symm)] at hx hu
    exact Kd.R_mono (Kd.R_far (h.elt j x u hx hu) (fun q hq => hok j q hq) _) (fun k hk => hokm j k e hk)
theorem drawn_below {w w' : World} (h : Drawn0 w w') : Below w.heap.size w w' := by
  obtain ⟨n, rfl⟩ := h
  exact pw_below_drewN (Below.refl _ _) _
theorem rows_put {w : World} {base P cap : Nat} {ok : Nat → Prop} {T : List (List Int)} (h : Kd.R (Kd.slice 2 (Kd.int .i64)) 24 w base ok (.slice (some ⟨P, 0, none⟩) T.length cap) T) (b : Nat) (u0 : Value) (x0 : List Int) (hR : Kd.R (Kd.int .i64) 2 w base (fun k => ok k ∧ k ≠ P) u0 x0) :
    Kd.R (Kd.slice 2 (Kd.int .i64)) 24 (w.setCell ⟨P, b, none⟩ u0) base ok (.slice (some ⟨P, 0, none⟩) T.length cap) (T.set b x0) := by
  obtain ⟨h0, inner, hown, hr⟩ := h
  have hown1 : w.ownsRow base 24 1 (.slice (some ⟨P, 0, none⟩) T.length cap) T.length inner := hown
  have hs := (own_store_of (enc := id) (xs := inner) (by simpa [encs] using hown1) (b : Int) u0).1
  simp [encs] at hs
  have hl := hown.1
  rw [show (Kd.slice 2 (Kd.int .i64)).sz = 1 from rfl, Nat.mul_one] at hl
  refine ⟨h0, inner.set b u0, by rw [List.length_set]; exact hs, by rw [List.length_set, List.length_set]; exact hown.1, fun j x hx => ?_⟩
  rw [show (Kd.slice 2 (Kd.int .i64)).sz = 1 from rfl]
  have hj : j < inner.length := by have := (List.getElem?_eq_some_iff.mp hx).1; rw [List.length_set] at this; omega
  by_cases e : j = b
  · subst e
    rw [List.getElem?_set_self (by omega)] at hx
    cases hx
    rw [drop_one _ j u0 (List.getElem?_set_self hj)]
    exact ⟨u0, rfl, Kd.R_far (Kd.R_mono hR (fun k hk => ⟨hk.1, fun q => hk.2 (by simpa [Value.ownBlock] using q)⟩)) (fun q hq => fun e => hq.2 (by rw [e]; rfl)) _⟩
  · rw [List.getElem?_set_ne (fun q => e q.symm)] at hx
    obtain ⟨v, ev, hRv⟩ := hr.2 j x hx
    rw [show (Kd.slice 2 (Kd.int .i64)).sz = 1 from rfl, drop_one inner j inner[j] (List.getElem?_eq_getElem hj)] at ev
    cases ev
    rw [drop_one _ j inner[j] (by rw [List.getElem?_set_ne (fun q => e q.symm), List.getElem?_eq_getElem hj])]
    exact ⟨_, rfl, Kd.R_far hRv (fun q hq => fun e => hq.2 (by rw [e]; rfl)) _⟩
theorem BestAt.reads {w : World} {base G cap : Nat} {T : List (List (List Int))} {cs : List Value} (h : BestAt w base G cap (fun _ k => k ≠ G) cs T) : T.length ≤ cap ∧ Kd.C (Kd.slice 24 (Kd.slice 2 (Kd.int .i64))) w (some ⟨G, 0, none⟩) T.length T := ⟨(Kd.R_reads' h.to_R).2.1, (Kd.R_reads' h.to_R).2.2⟩
theorem rows_cell {w : World} {base P cap n : Nat} {ok : Nat → Prop} {T : List (List Int)} (h : Kd.R (Kd.slice 2 (Kd.int .i64)) 24 w base ok (.slice (some ⟨P, 0, none⟩) n cap) T) (hn : T.length = n) (b : Int) (h0 : 0 ≤ b) (hb : b < n) : (∃ u, w.cell? ⟨P, b.toNat, none⟩ = some u) ∧ w.frozen? ⟨P, b.toNat, none⟩ = false := by
  subst hn
  obtain ⟨h0, inner, hown, hr⟩ := h
  have hown1 : w.ownsRow base 24 1 (.slice (some ⟨P, 0, none⟩) T.length cap) T.length inner := hown
  have := own_at_of (enc := id) (d := (.slice none 0 0 : Value)) (xs := inner) (by simpa [encs] using hown1) b (by omega) (by omega)
  exact ⟨⟨_, this.1⟩, this.2⟩
theorem below_setG {w w' : World} {g j : Nat} (h : Below w.heap.size w w') (hg : w.heap.size ≤ g) (v : Value) : Below w.heap.size w (w'.setCell ⟨g, j, none⟩ v) := below_set h hg
theorem info46r : (Try.prog.info? 46).map (fun i => (i.zero, i.size, i.bytes)) = some (some (.slice none 0 0), 1, 24) := by kernel_rfl
theorem info24r : (Try.prog.info? 24).map (fun i => (i.zero, i.size, i.bytes)) = some (some (.slice none 0 0), 1, 24) := by kernel_rfl
def few3 (l0 : List Int) (T : List (List (List Int))) (i b : Nat) : Nat → Nat → List Int → Option (List Int)
  | 0, _, xs => some xs
  | d + 1, c, xs => (spec_l07Rest.f 100 l0 T (i : Int) (b : Int) (c : Int)).bind fun v => few3 l0 T i b d (c + 1) (xs.set c v)
def few2 (l0 : List Int) (i : Nat) : Nat → Nat → List (List (List Int)) → Option (List (List (List Int)))
  | 0, _, T => some T
  | d + 1, b, T => (few3 l0 T i b 7 0 (List.replicate 7 0)).bind fun row => few2 l0 i d (b + 1) (T.set i ((T.getD i []).set b row))
def few1 (l0 : List Int) : Nat → List (List (List Int)) → Option (List (List (List Int)))
  | 0, T => some T
  | d + 1, T => (few2 l0 d 7 0 (T.set d (List.replicate 7 []))).bind fun T' => few1 l0 d T'
def spec_l07Fewest.f (l0 : List Int) : Option (List (List (List Int))) := if l0.length ≤ 1000000 then few1 l0 (l0.length + 1) (List.replicate (l0.length + 1) []) else none
set_option maxHeartbeats 4000000 in
set_option maxRecDepth 100000 in
theorem spec_l07Fewest.calls (A0 : Option Addr) (c0 : Nat) (l0 : List Int) (r : List (List (List Int))) (w : World) (hr0 : Kd.C (Kd.int .i64) w A0 l0.length l0) (hc0 : l0.length ≤ c0) (h : spec_l07Fewest.f l0 = some r) :
    Calls Try.prog 25 #[.slice A0 l0.length c0] w fun e w' => ∃ v0_ : Value, e = .returned (v0_) ∧ Kd.R (Kd.slice 24 (Kd.slice 2 (Kd.int .i64))) 46 w' w.heap.size (fun _ => True) v0_ r ∧ Below w.heap.size w w' := by
  unfold spec_l07Fewest.f at h
  have hlen : l0.length ≤ 1000000 := by
    by_cases c : l0.length ≤ 1000000
    · exact c
    · rw [if_neg c] at h; exact absurd h (by simp)
  rw [if_pos hlen] at h
  have HR0 := Aside0.mk hr0
  have HC0 := Aside0.mk hc0
  have HF := Aside0.mk h
  clear hr0 hc0 h
  have hln : (l0.length : Int) ≤ 1000000 := by omega
  go_enter Try.func25, Try.ntmps25
  go_wp2_with (first | ((with_reducible refine gate_dst (N := 13) rfl ?_); refine Kd.R_make (Kd.slice 24 (Kd.slice 2 (Kd.int .i64))) _ 46 rfl (N := 13) rfl 44 _ _ rfl ((l0.length : Int) + 1) rfl rfl Try.underlying44 (.slice none 0 0) 24 info46r rfl (by decide) (by omega) [] (ok := fun k_ => k_ = w.heap.size) (okp := fun _ => False) ⟨_, rfl, Kd.R_nil _ _ _ _ _⟩ (fun _ hk => hk.elim) rfl (by omega) (by omega) (Below.refl _ _) (Nat.le_refl _) ?_; intro v13 w1 ho hb hg_ hnew_; have HB := Aside0.mk hb; have HO := Aside0.mk ho; clear hb ho hg_ hnew_))
  have hl1 : ((l0.length : Int) + 1).toNat = l0.length + 1 := by omega
  rw [hl1] at HO
  obtain ⟨G, cap, ev, hgb, hgl, _⟩ := Kd.R_form HO.out (by simp)
  rw [List.length_replicate] at ev
  subst ev
  have hGw : G = w.heap.size := HO.out.1 G rfl
  obtain ⟨cs0, hbst⟩ := BestAt.of_R (T := List.replicate (l0.length + 1) []) (G := G) (cap := cap) (by rw [List.length_replicate]; exact HO.out)
  have HBST := Aside0.mk (hbst.mono (OK' := fun _ k => k ≠ G) (fun j k hk _ => absurd (by rw [hk.1, hGw]) hk.2))
  have HGL := Aside0.mk hgl
  have HGB := Aside0.mk hgb
  clear HO hbst hgl hgb hGw hl1
  go_loopg [5] (l0.length + 1) (fun kq v5 w' => ∃ (i : Int) (T : List (List (List Int))) (cs : List Value), v5 = .int .i64 i ∧ Aside0 (i + 1 = kq) ∧ Aside0 (few1 l0 kq T = some r) ∧ Aside0 (T.length = l0.length + 1) ∧ Aside0 (kq ≤ l0.length + 1) ∧ Aside0 (BestAt w' w.heap.size G cap (fun _ k => k ≠ G) cs T) ∧ Aside0 (Below w.heap.size w w') ∧ Aside0 (G < w'.heap.size))
  case atStart => exact ⟨(l0.length : Int), _, cs0, rfl, ⟨by omega⟩, HF, ⟨by simp⟩, ⟨Nat.le_refl _⟩, HBST, HB, HGL⟩
  case round =>
    clear HF HBST HB HGL
    obtain ⟨i, T, cs, rfl, HI, HF, HTL, HKQ, HBST, HB, HGL⟩ := hrel
    cases gk with
    | zero =>
      have hi := HI.out
      have e1 : decide (i ≥ 0) = false := decide_eq_false (by omega)
      have e2 : decide (0 ≤ i) = false := decide_eq_false (by omega)
      clear hi
      go_wp2
      go_ret
      have hT := HF.out
      simp only [few1] at hT
      cases hT
      refine ⟨_, rfl, ?_, HB.out⟩
      have := HBST.out.to_R
      rw [HTL.out] at this
      exact this
    | succ d =>
      have hid : i = (d : Int) := by have := HI.out; omega
      have hi0 : 0 ≤ i := by omega
      have hi1 : i ≤ (l0.length : Int) := by have := HKQ.out; omega
      have HID := Aside0.mk hid
      clear hid
      have e1 : decide (i ≥ 0) = true := decide_eq_true hi0
      have e2 : decide (0 ≤ i) = true := decide_eq_true hi0
      have p1 : (0 ≤ i) = True := eq_true hi0
      have q1 : (i < (l0.length : Int) + 1) = True := eq_true (by omega)
      go_wp2_with (first | ((with_reducible refine gate_dst (N := 21) rfl ?_); refine Kd.R_make (Kd.slice 2 (Kd.int .i64)) w.heap.size 24 rfl (N := 21) rfl 46 _ _ rfl 7 rfl rfl Try.underlying46 (.slice none 0 0) 24 info24r rfl (by decide) (by omega) [] (ok := fun k_ => k_ = wr.heap.size) (okp := fun _ => False) ⟨_, rfl, Kd.R_nil _ _ _ _ _⟩ (fun _ hk => hk.elim) rfl (by omega) (by decide) HB.out HB.out.size ?_; intro v21 w2 ho hb hg_ hnew_; simp only [Int.reduceToNat] at ho; obtain ⟨P, capP, evp, hpb, hpl, _⟩ := Kd.R_form ho (by simp); rw [List.length_replicate] at evp; subst evp; have HPE := Aside0.mk ((ho.1 P rfl) : P = wr.heap.size); have HP := Aside0.mk ho; have HBST2 := Aside0.mk ((HBST.out.mono (OK' := fun _ k => k ≠ G ∧ k < wr.heap.size) (fun _ k hk hlt => ⟨hk, hlt⟩)).move (hg_.block G HGL.out (by simp)) (fun _ k _ hlt => hg_.block k hlt (by simp))); obtain ⟨hcG, hfG⟩ := own_at_of (enc := id) (d := (.slice none 0 0 : Value)) (xs := cs) (by have q_ := HBST2.out.own; rw [HTL.out] at q_; simpa [encs] using q_) i hi0 (by omega); have HGL2 := Aside0.mk (Nat.lt_of_lt_of_le HGL.out hg_.size); clear HB; have HB := Aside0.mk hb; clear ho hb hg_ hnew_))
      have hF2 := HF.out
      simp only [few1] at hF2
      obtain ⟨T', hT', hr'⟩ := Option.bind_eq_some_iff.mp hF2
      clear hF2
      have HF1 := Aside0.mk hr'
      have HF2 := Aside0.mk hT'
      clear hr' hT'
      have hGP : G < P := by rw [HPE.out]; exact HGL.out
      have HGP := Aside0.mk hGP
      have hw3 := BestAt.put (OK' := fun j k => (j = d → P ≤ k) ∧ (j ≠ d → k ≠ G ∧ k < P)) HBST2.out d (.slice (some ⟨P, 0, none⟩) 7 capP) (List.replicate 7 []) (fun j k hk => hk.1) (fun j k hj hk => ⟨fun e => absurd e hj, fun _ => ⟨hk.1, by rw [HPE.out]; exact hk.2⟩⟩) (fun k hk => by have := hk.1 rfl; omega) (Kd.R_mono HP.out (fun k hk => ⟨fun _ => by rw [hk, HPE.out]; exact Nat.le_refl _, fun e => absurd rfl e⟩))
      have HD := Aside0.mk (show i.toNat = d by have := HID.out; omega)
      rw [← HD.out] at hw3
      have HB3 := Aside0.mk (below_setG (g := G) (j := i.toNat) HB.out HGB.out (.slice (some ⟨P, 0, none⟩) 7 capP))
      have HBST3 := Aside0.mk hw3
      have hcsl : cs.length = l0.length + 1 := by have q_ := HBST2.out.own.1; rw [HTL.out] at q_; omega
      have hcs2 : (cs.set i.toNat (.slice (some ⟨P, 0, none⟩) 7 capP))[i.toNat]? = some (.slice (some ⟨P, 0, none⟩) 7 capP) := List.getElem?_set_self (by omega)
      obtain ⟨cs2, hcs⟩ : ∃ cs2, cs2 = cs.set i.toNat (.slice (some ⟨P, 0, none⟩) 7 capP) := ⟨_, rfl⟩
      rw [← hcs] at HBST3 hcs2
      have HCS := Aside0.mk hcs2
      have HTL3 := Aside0.mk (show (T.set i.toNat (List.replicate 7 ([] : List Int))).length = l0.length + 1 by rw [List.length_set]; exact HTL.out)
      have HTI := Aside0.mk (show (T.set i.toNat (List.replicate 7 ([] : List Int)))[i.toNat]? = some (List.replicate 7 []) from List.getElem?_set_self (by have := HTL.out; omega))
      have HPL := Aside0.mk (show P < (w2.setCell ⟨G, i.toNat, none⟩ (.slice (some ⟨P, 0, none⟩) 7 capP)).heap.size by simpa [World.setCell] using hpl)
      rw [← HD.out] at HF2
      clear hw3 hcs hcs2 hcsl HBST2 HBST HP HPE HB HGL HGL2 hcG hfG hpb hpl hGP
      go_loopg [6] 7 (fun kq v6 w' => ∃ (b : Int) (T2 : List (List (List Int))) (Tp : List (List Int)), v6 = .int .i64 b ∧ Aside0 (b + kq = 7 ∧ 0 ≤ b) ∧ Aside0 (few2 l0 i.toNat kq b.toNat T2 = some T') ∧ Aside0 (T2.length = l0.length + 1) ∧ Aside0 (T2[i.toNat]? = some Tp ∧ Tp.length = 7) ∧ Aside0 (BestAt w' w.heap.size G cap (fun j k => (j = i.toNat → P ≤ k) ∧ (j ≠ i.toNat → k ≠ G ∧ k < P)) cs2 T2) ∧ Aside0 (Below w.heap.size w w') ∧ Aside0 (P < w'.heap.size))
      case atStart => exact ⟨0, _, _, rfl, ⟨by omega⟩, HF2, HTL3, ⟨⟨HTI.out, by simp⟩⟩, HBST3, HB3, HPL⟩
      case round =>
        clear HF2 HTL3 HTI HBST3 HB3 HPL
        obtain ⟨b, T2, Tp, rfl, HBI, HF2, HTL2, HTP, HBST, HB, HPL⟩ := hrel
        have hb0 : 0 ≤ b := HBI.out.2
        have hcell := own_at_of (enc := id) (d := (.slice none 0 0 : Value)) (xs := cs2) (by have q_ := HBST.out.own; rw [HTL2.out] at q_; simpa [encs] using q_) i hi0 (by omega)
        cases gk with
        | zero =>
          have b7 : b = 7 := by have := HBI.out; omega
          have e3 : decide (b ≤ 6) = false := decide_eq_false (by omega)
          clear b7
          go_wp2
          go_roundg d
          case measure => omega
          case rel =>
            have hF := HF2.out
            simp only [few2] at hF
            rw [← Option.some.inj hF] at HF1
            exact ⟨i - 1, T2, cs2, by first | rfl | (simp; done), ⟨by have := HID.out; omega⟩, HF1, HTL2, ⟨by have := HKQ.out; omega⟩, ⟨HBST.out.mono (fun j k hk hlt => by have := HGP.out; by_cases e : j = i.toNat; exact Nat.ne_of_gt (Nat.lt_of_lt_of_le this (hk.1 e)); exact (hk.2 e).1)⟩, HB, ⟨Nat.lt_trans HGP.out HPL.out⟩⟩
        | succ e =>
          have e3 : decide (b ≤ 6) = true := decide_eq_true (by have := HBI.out; omega)
          have hF := HF2.out
          simp only [few2] at hF
          obtain ⟨row, hrow, hF2⟩ := Option.bind_eq_some_iff.mp hF
          have HF3 := Aside0.mk hF2
          have HRW := Aside0.mk hrow
          clear hF hF2 hrow HF2 hcell
          go_wp2_with (first | ((with_reducible refine gate_dst (N := 27) rfl ?_); refine Kd.R_make (Kd.int .i64) w.heap.size 2 rfl (N := 27) rfl 24 _ _ rfl 7 rfl rfl Try.underlying24 (.int .i64 0) 8 info2 rfl (by decide) (by omega) 0 (ok := fun k_ => k_ = wr.heap.size) (okp := fun _ => False) rfl (fun _ hk => hk.elim) rfl (by omega) (by decide) HB.out HB.out.size ?_; intro v27 w4 ho hb hg_ hnew_; simp only [Int.reduceToNat] at ho; obtain ⟨R, capR, evr, hrb, hrl, _⟩ := Kd.R_form ho (by simp); rw [List.length_replicate] at evr; subst evr; have HRE := Aside0.mk ((ho.1 R rfl) : R = wr.heap.size); have HR := Aside0.mk (Kd.R_mono ho (ok' := fun k_ => k_ = R) (fun k_ hk => by rw [HRE.out]; exact hk)); have HPR := Aside0.mk (show P < R by rw [HRE.out]; exact HPL.out); have HRL := Aside0.mk hrl; have HBST4 := Aside0.mk ((HBST.out.mono (OK' := fun j k => (j = i.toNat → P ≤ k ∧ k < R) ∧ (j ≠ i.toNat → k ≠ G ∧ k < P)) (fun j k hk hlt => ⟨fun e => ⟨hk.1 e, by rw [HRE.out]; exact hlt⟩, hk.2⟩)).move (hg_.block G (Nat.lt_trans HGP.out HPL.out) (by simp)) (fun _ k _ hlt => hg_.block k hlt (by simp))); clear HB HBST; have HB := Aside0.mk hb; clear ho hb hg_ hnew_ hrb hrl HRE HPL))
          go_loopg [8] 7 (fun kq v8 w' => ∃ (c : Int) (xs : List Int), v8 = .int .i64 c ∧ Aside0 (c + kq = 7 ∧ 0 ≤ c) ∧ Aside0 (few3 l0 T2 i.toNat b.toNat kq c.toNat xs = some row) ∧ Aside0 (xs.length = 7) ∧ Aside0 (Kd.R (Kd.int .i64) 2 w' w.heap.size (fun k_ => k_ = R) (.slice (some ⟨R, 0, none⟩) 7 capR) xs) ∧ Aside0 (BestAt w' w.heap.size G cap (fun j k => (j = i.toNat → P ≤ k ∧ k < R) ∧ (j ≠ i.toNat → k ≠ G ∧ k < P)) cs2 T2) ∧ Aside0 (Below w.heap.size w w') ∧ Aside0 (R < w'.heap.size))
          case atStart => exact ⟨0, _, rfl, ⟨by omega⟩, HRW, ⟨by simp⟩, HR, HBST4, HB, HRL⟩
          case round =>
            clear HRW HR HBST4 HB HRL
            obtain ⟨c, xs, rfl, HCI, HRW, HXL, HR, HBST, HB, HRL⟩ := hrel
            have hc0 : 0 ≤ c := HCI.out.2
            cases gk with
            | zero =>
              have e4 : decide (c ≤ 6) = false := decide_eq_false (by have := HCI.out; omega)
              have hx := HRW.out
              simp only [few3] at hx
              have hx2 := Option.some.inj hx
              have hRP := HBST.out.elt i.toNat Tp _ HTP.out.1 HCS.out
              obtain ⟨⟨uP, hcP⟩, hfP⟩ := rows_cell hRP HTP.out.2 b hb0 (by have := HBI.out; omega)
              have hG1 := own_at_of (enc := id) (d := (.slice none 0 0 : Value)) (xs := cs2) (by have q_ := HBST.out.own; rw [HTL2.out] at q_; simpa [encs] using q_) i hi0 (by omega)
              have hG2 : wr.cell? ⟨G, i.toNat, none⟩ = some (.slice (some ⟨P, 0, none⟩) 7 capP) := by
                rw [hG1.1]
                unfold rdOf
                rw [List.getD_eq_getElem?_getD, HCS.out]
                rfl
              have hRP7 : Kd.R (Kd.slice 2 (Kd.int .i64)) 24 wr w.heap.size (fun k => P ≤ k) (.slice (some ⟨P, 0, none⟩) Tp.length capP) Tp := by
                rw [HTP.out.2]
                exact Kd.R_mono hRP (fun k hk => (hk.1 rfl).1)
              have hnew := rows_put hRP7 b.toNat (.slice (some ⟨R, 0, none⟩) 7 capR) xs (Kd.R_mono HR.out (fun k hk => by have := HPR.out; subst hk; exact ⟨by omega, by omega⟩))
              rw [HTP.out.2] at hnew
              have hB1 := (HBST.out.mono (OK' := fun j k => (j = i.toNat → P ≤ k) ∧ (j ≠ i.toNat → k ≠ G ∧ k < P)) (fun j k hk _ => ⟨fun q => (hk.1 q).1, hk.2⟩)).upd (w1 := wr.setCell ⟨P, b.toNat, none⟩ (.slice (some ⟨R, 0, none⟩) 7 capR)) i.toNat _ HCS.out (Tp.set b.toNat xs) (Below.heap_setCell _ _ _ _ (show G ≠ P from Nat.ne_of_lt HGP.out)) (fun j k hj hk _ => Below.heap_setCell _ _ _ _ (show k ≠ P from Nat.ne_of_lt (hk.2 hj).2)) (Kd.R_mono hnew (fun k hk => ⟨fun _ => hk, fun q => absurd rfl q⟩))
              have HB1 := Aside0.mk hB1
              have HX2 := Aside0.mk hx2
              have p3 : (0 ≤ b) = True := eq_true hb0
              have hb6 : b ≤ 6 := by have := HBI.out; omega
              have q3 : (b < 7) = True := eq_true (by omega)
              clear hx hx2 hRP hG1 hRP7 hnew hB1
              go_wp2
              go_roundg e
              case measure => omega
              case rel =>
                have hgp := HGP.out
                have hpr := HPR.out
                have hgb := HGB.out
                have hF := HF3.out
                rw [← HX2.out, List.getD_eq_getElem?_getD, HTP.out.1, Option.getD_some, show b.toNat + 1 = (b + 1).toNat by omega] at hF
                exact ⟨b + 1, T2.set i.toNat (Tp.set b.toNat xs), Tp.set b.toNat xs, by first | rfl | (simp; done), ⟨by have := HBI.out; omega⟩, ⟨hF⟩, ⟨by rw [List.length_set]; exact HTL2.out⟩, ⟨List.getElem?_set_self (by have := HTL2.out; omega), by rw [List.length_set]; exact HTP.out.2⟩, HB1, ⟨below_setG HB.out (by omega) _⟩, ⟨by have := HRL.out; simp [World.setCell]; omega⟩⟩
            | succ e' =>
              have hc6 : c ≤ 6 := by have := HCI.out; omega
              have e4 : decide (c ≤ 6) = true := decide_eq_true hc6
              have HBC := Aside0.mk (HBST.out.mono (OK' := fun _ k => k ≠ G) (fun j k hk hlt => by have q := HGP.out; by_cases e : j = i.toNat; exact Nat.ne_of_gt (Nat.lt_of_lt_of_le q (hk.1 e).1); exact (hk.2 e).1)).reads
              have hF := HRW.out
              simp only [few3] at hF
              obtain ⟨v, hv, hF3⟩ := Option.bind_eq_some_iff.mp hF
              rw [show ((i.toNat : Nat) : Int) = i by omega, show ((b.toNat : Nat) : Int) = b by omega, show ((c.toNat : Nat) : Int) = c by omega] at hv
              rw [show c.toNat + 1 = (c + 1).toNat by omega] at hF3
              have HV := Aside0.mk hv
              have HF4 := Aside0.mk hF3
              have hc31 := spec_l07Rest.calls 100 A0 c0 l0 (some ⟨G, 0, none⟩) cap T2 i b c v wr (Kd.C_below HR0.out HB.out) HC0.out HBC.out.2 HBC.out.1 HV.out
              rw [HTL2.out] at hc31
              have HC31 := Aside0.mk hc31
              have p2 : (0 ≤ c) = True := eq_true hc0
              have q2 : (c < 7) = True := eq_true (by omega)
              clear hF hv hF3 hc31
              go_wp2_with (first | (go_at_call 31; (with_reducible refine HC31.out.mono ?_); rintro e w5 ⟨rfl, hd⟩; have hbl := drawn_below hd; have HR_ := Aside0.mk (Kd.R_below HR.out hbl); obtain ⟨hcR, hfR⟩ := Kd.R_celln 0 HR_.out c hc0 (by omega); have HBST_ := Aside0.mk (HBST.out.below (Nat.lt_trans HGP.out (Nat.lt_trans HPR.out HRL.out)) hbl); have HB_ := Aside0.mk (below_step HB.out hbl); have HRL_ := Aside0.mk (Nat.lt_of_lt_of_le HRL.out hbl.size); clear hd hbl))
              go_roundg e'
              case measure => omega
              case rel =>
                have hgp := HGP.out
                have hpr := HPR.out
                have hgb := HGB.out
                exact ⟨c + 1, xs.set c.toNat v, by first | rfl | (simp; done), ⟨by have := HCI.out; omega⟩, HF4, ⟨by rw [List.length_set]; exact HXL.out⟩, ⟨Kd.R_putn HR_.out c v⟩, ⟨HBST_.out.move (Below.heap_setCell _ _ _ _ (show G ≠ R by omega)) (fun j k hk _ => Below.heap_setCell _ _ _ _ (show k ≠ R by by_cases q : j = i.toNat; exact Nat.ne_of_lt (hk.1 q).2; exact Nat.ne_of_lt (Nat.lt_trans (hk.2 q).2 hpr)))⟩, ⟨below_setG HB_.out (by omega) _⟩, ⟨by have := HRL_.out; simpa [World.setCell] using this⟩⟩

end Go.Proofs.Ytegjebiocgbmpaa.P
