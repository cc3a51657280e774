-- Walks of this claim's functions, laid by a program of this session.
import Derived.Test.YtajndapolblhmaaPx0
import Derived.Test.YtajndapolblhmaaPx4
import Derived.Test.YtajndapolblhmaaPx7
import Derived.Test.YtajndapolblhmaaPx40
namespace Go.Proofs.Ytajndapolblhmaa.P
open Go.RowKit Go.Proofs.YtajndapolblhmaaW.PrintWords Go.Proofs.YtajndapolblhmaaW.PrintLast Go.Proofs.YtajndapolblhmaaW.PrintMore
attribute [local go_sem] max2_int min2_int max_two min_two max_three min_three max_four min_four   -- for this text's walks alone
set_option linter.unusedVariables false
set_option linter.unusedSimpArgs false

/-! ### laws_eqInt64SS: function 50 -/
def laws_eqInt64SS.l0 : Nat → List (List Int) → List (List Int) → Int → Option (Bool)
  | 0, _, _, _ => none
  | k + 1, x0, x1, x5 => if x5 < (x0.length : Int) then (if 0 ≤ x5 then (if x5 < (x1.length : Int) then ((laws_eqInt64S.f k (rd_L1 x0 x5) (rd_L1 x1 x5)).bind fun t808 => (if t808 = true then (laws_eqInt64SS.l0 k x0 x1 (wrap64 (x5 + 1))) else (some false))) else (none)) else (none)) else (some true)
def laws_eqInt64SS.f (k : Nat) (l0 : List (List Int)) (l1 : List (List Int)) : Option (Bool) := if (l0.length : Int) = (l1.length : Int) then (laws_eqInt64SS.l0 k l0 l1 0) else (some false)
theorem laws_eqInt64SS.mono_l : ∀ k, (∀ y0 y1 y2, LeO (laws_eqInt64SS.l0 k y0 y1 y2) (laws_eqInt64SS.l0 (k + 1) y0 y1 y2))
  | 0 => fun _ _ _ r h => by simp [laws_eqInt64SS.l0] at h
  | k + 1 => by
    have ih0 := laws_eqInt64SS.mono_l k
    · intro y0 y1 y2
      unfold laws_eqInt64SS.l0
      repeat' first
      | (with_reducible exact ih0 _ _ _)
      | (with_reducible exact laws_eqInt64S.mono _ _ _)
      | (with_reducible exact LeO.refl _)
      | (with_reducible exact LeO.none _)
      | (with_reducible refine LeO.ite ?_ ?_)
      | (with_reducible refine LeO.bind ?_ (fun _ => ?_))
      | exact ih0 _ _ _
      | exact laws_eqInt64S.mono _ _ _
      | exact LeO.none _
      | refine LeO.ite ?_ ?_
      | refine LeO.bind ?_ (fun _ => ?_)
theorem laws_eqInt64SS.mono : ∀ a0 a1 k, LeO (laws_eqInt64SS.f k a0 a1) (laws_eqInt64SS.f (k + 1) a0 a1) := by
  intro a0 a1 k
  have ih0 := laws_eqInt64SS.mono_l k
  unfold laws_eqInt64SS.f
  repeat' first
      | (with_reducible exact ih0 _ _ _)
      | (with_reducible exact laws_eqInt64S.mono _ _ _)
      | (with_reducible exact LeO.refl _)
      | (with_reducible exact LeO.none _)
      | (with_reducible refine LeO.ite ?_ ?_)
      | (with_reducible refine LeO.bind ?_ (fun _ => ?_))
      | exact ih0 _ _ _
      | exact laws_eqInt64S.mono _ _ _
      | exact LeO.none _
      | refine LeO.ite ?_ ?_
      | refine LeO.bind ?_ (fun _ => ?_)
set_option maxHeartbeats 8000000 in
set_option maxRecDepth 100000 in
theorem laws_eqInt64SS.calls (k : Nat) (A0 : Option Addr) (c0 : Nat) (l0 : List (List Int)) (A1 : Option Addr) (c1 : Nat) (l1 : List (List Int)) (r : Bool) (w : World) (hr0 : Kd.C (Kd.slice 2 (Kd.int .i64)) w A0 l0.length l0) (hc0 : l0.length ≤ c0) (hr1 : Kd.C (Kd.slice 2 (Kd.int .i64)) w A1 l1.length l1) (hc1 : l1.length ≤ c1) (h : laws_eqInt64SS.f k l0 l1 = some r) :
    Calls Try.prog 50 #[.slice A0 l0.length c0, .slice A1 l1.length c1] w fun e w' => e = .returned (.bool r) ∧ Drawn0 w w' := by
  have HR0 := Aside0.mk hr0
  have HC0 := Aside0.mk hc0
  clear hr0 hc0
  have HR1 := Aside0.mk hr1
  have HC1 := Aside0.mk hc1
  clear hr1 hc1
  have H : (if (l0.length : Int) = (l1.length : Int) then (laws_eqInt64SS.l0 k l0 l1 0) else (some false)) = some r := h
  clear h
  by_cases c3 : (l0.length : Int) = (l1.length : Int)
  · rw [if_pos c3] at H
    have c3b0 : ((l0.length : Int) == (l1.length : Int)) = true := beq_iff_eq.mpr c3
    have c3b1 : ((l0.length : Int) != (l1.length : Int)) = false := bne_eq_false_iff_eq.mpr c3
    have c3b2 : (l0.length == l1.length) = true := by first | simpa using c3 | (simp at c3 ⊢; omega)
    clear c3
    have H' := Aside0.mk H
    clear H
    go_enter Try.func50, Try.ntmps50
    go_wp2
    repeat (go_quiet (fail); try go_wp2)
    go_loopg [5] k (fun kq v5 w' => ∃ (x5_1 : Int), v5 = .int .i64 x5_1 ∧ Aside0 (laws_eqInt64SS.l0 kq l0 l1 x5_1 = some r) ∧ Aside0 (kq ≤ k) ∧ Drawn0 w w')
    case atStart => exact ⟨(0), (by first | rfl | (simp; done) | (simp [*]; done) | (simp [Int.tdiv_eq_ediv_of_nonneg, *]; done)), H', ⟨Nat.le_refl _⟩, by repeat (first | exact Drawn0.refl _ | apply Drawn0.step)⟩
    case round =>
      clear H'
      try clear c1
      try clear p2
      try clear c3
      try clear c3b0
      try clear c3b1
      try clear c3b2
      obtain ⟨x5_1, rfl, HA, HK1, ⟨m1, rfl⟩⟩ := hrel
      cases gk with
      | zero => exact absurd HA.out (by simp [laws_eqInt64SS.l0])
      | succ k1 =>
        have H := HA.out
        clear HA
        simp only [laws_eqInt64SS.l0] at H
        by_cases c4 : x5_1 < (l0.length : Int)
        · rw [if_pos c4] at H
          have c4b0 : decide (x5_1 < (l0.length : Int)) = true := decide_eq_true c4
          clear c4
          by_cases c5 : 0 ≤ x5_1
          · rw [if_pos c5] at H
            have c5b0 : decide (0 ≤ x5_1) = true := decide_eq_true c5
            clear c5
            by_cases c6 : x5_1 < (l1.length : Int)
            · rw [if_pos c6] at H
              have c6b0 : decide (x5_1 < (l1.length : Int)) = true := decide_eq_true c6
              clear c6
              replace H := Option.bind_eq_some_iff.mp H
              obtain ⟨t808, A70, H⟩ := H
              replace H : (if t808 = true then (laws_eqInt64SS.l0 k1 l0 l1 (wrap64 (x5_1 + 1))) else (some false)) = some r := H
              have A7 := Aside0.mk A70
              clear A70
              by_cases c8 : t808 = true
              · subst c8
                have H1 : (laws_eqInt64SS.l0 k1 l0 l1 (wrap64 (x5_1 + 1))) = some r := by rw [if_pos rfl] at H; exact H
                clear H
                have H := H1
                clear H1
                have H' := Aside0.mk H
                clear H
                have p806 : 0 ≤ (x5_1 : Int) := of_decide_eq_true (by first | (with_reducible assumption) | assumption)
                have q806 : x5_1 < (l0.length : Int) := of_decide_eq_true (by first | (with_reducible assumption) | assumption)
                obtain ⟨ad806, A806_0, c806_0, e806, hx806_0, hl806_0, hi806_0⟩ := at_L1 HR0.out x5_1 p806 q806
                cases e806
                have HR806_0 := Aside0.mk hi806_0
                have HC806_0 := Aside0.mk hl806_0
                clear hi806_0 hl806_0
                replace p806 := eq_true p806
                replace q806 := eq_true q806
                have p807 : 0 ≤ (x5_1 : Int) := of_decide_eq_true (by first | (with_reducible assumption) | assumption)
                have q807 : x5_1 < (l1.length : Int) := of_decide_eq_true (by first | (with_reducible assumption) | assumption)
                obtain ⟨ad807, A807_0, c807_0, e807, hx807_0, hl807_0, hi807_0⟩ := at_L1 HR1.out x5_1 p807 q807
                cases e807
                have HR807_0 := Aside0.mk hi807_0
                have HC807_0 := Aside0.mk hl807_0
                clear hi807_0 hl807_0
                replace p807 := eq_true p807
                replace q807 := eq_true q807
                go_wp2_with (first | (go_at_call 18; (with_reducible refine (laws_eqInt64S.calls k1 _ _ (rd_L1 l0 x5_1) _ _ (rd_L1 l1 x5_1) true _ ?side1 ?side2 ?side3 ?side4 A7.out).mono ?_); (case side1 => repeat (first | exact HR806_0.out | (with_reducible refine Kd.C_alloc ?_ _) | (with_reducible refine Kd.C_drewN ?_ _) | (with_reducible refine Kd.C_drew ?_))); (case side2 => exact HC806_0.out); (case side3 => repeat (first | exact HR807_0.out | (with_reducible refine Kd.C_alloc ?_ _) | (with_reducible refine Kd.C_drewN ?_ _) | (with_reducible refine Kd.C_drew ?_))); (case side4 => exact HC807_0.out); rintro e w' ⟨rfl, ⟨nd, rfl⟩⟩; (try first | exact ⟨rfl, _, World.drewN_drewN _ _ _⟩ | exact ⟨rfl, _, Eq.trans (World.drewN_drewN _ _ _) (congrArg (World.drewN _) (Nat.add_assoc _ _ _))⟩)))
                repeat (go_quiet (first | (go_at_call 18; (with_reducible refine (laws_eqInt64S.calls k1 _ _ (rd_L1 l0 x5_1) _ _ (rd_L1 l1 x5_1) true _ ?side1 ?side2 ?side3 ?side4 A7.out).mono ?_); (case side1 => repeat (first | exact HR806_0.out | (with_reducible refine Kd.C_alloc ?_ _) | (with_reducible refine Kd.C_drewN ?_ _) | (with_reducible refine Kd.C_drew ?_))); (case side2 => exact HC806_0.out); (case side3 => repeat (first | exact HR807_0.out | (with_reducible refine Kd.C_alloc ?_ _) | (with_reducible refine Kd.C_drewN ?_ _) | (with_reducible refine Kd.C_drew ?_))); (case side4 => exact HC807_0.out); rintro e w' ⟨rfl, ⟨nd, rfl⟩⟩; (try first | exact ⟨rfl, _, World.drewN_drewN _ _ _⟩ | exact ⟨rfl, _, Eq.trans (World.drewN_drewN _ _ _) (congrArg (World.drewN _) (Nat.add_assoc _ _ _))⟩))); try go_wp2_with (first | (go_at_call 18; (with_reducible refine (laws_eqInt64S.calls k1 _ _ (rd_L1 l0 x5_1) _ _ (rd_L1 l1 x5_1) true _ ?side1 ?side2 ?side3 ?side4 A7.out).mono ?_); (case side1 => repeat (first | exact HR806_0.out | (with_reducible refine Kd.C_alloc ?_ _) | (with_reducible refine Kd.C_drewN ?_ _) | (with_reducible refine Kd.C_drew ?_))); (case side2 => exact HC806_0.out); (case side3 => repeat (first | exact HR807_0.out | (with_reducible refine Kd.C_alloc ?_ _) | (with_reducible refine Kd.C_drewN ?_ _) | (with_reducible refine Kd.C_drew ?_))); (case side4 => exact HC807_0.out); rintro e w' ⟨rfl, ⟨nd, rfl⟩⟩; (try first | exact ⟨rfl, _, World.drewN_drewN _ _ _⟩ | exact ⟨rfl, _, Eq.trans (World.drewN_drewN _ _ _) (congrArg (World.drewN _) (Nat.add_assoc _ _ _))⟩))))
                go_roundg k1
                case measure => have := HK1.out; omega
                case rel => exact ⟨(wrap64 (x5_1 + 1)), (by first | rfl | (simp; done) | (simp [*]; done) | (simp [Int.tdiv_eq_ediv_of_nonneg, *]; done)), H', ⟨by have := HK1.out; omega⟩, by repeat (first | exact Drawn0.refl _ | apply Drawn0.step)⟩
              · replace c8 := Bool.eq_false_iff.mpr c8
                subst c8
                have H1 : (some false) = some r := by rw [if_neg (show ¬ (false = true) by decide)] at H; exact H
                clear H
                have H := H1
                clear H1
                obtain rfl := Option.some.inj H
                have p806 : 0 ≤ (x5_1 : Int) := of_decide_eq_true (by first | (with_reducible assumption) | assumption)
                have q806 : x5_1 < (l0.length : Int) := of_decide_eq_true (by first | (with_reducible assumption) | assumption)
                obtain ⟨ad806, A806_0, c806_0, e806, hx806_0, hl806_0, hi806_0⟩ := at_L1 HR0.out x5_1 p806 q806
                cases e806
                have HR806_0 := Aside0.mk hi806_0
                have HC806_0 := Aside0.mk hl806_0
                clear hi806_0 hl806_0
                replace p806 := eq_true p806
                replace q806 := eq_true q806
                have p807 : 0 ≤ (x5_1 : Int) := of_decide_eq_true (by first | (with_reducible assumption) | assumption)
                have q807 : x5_1 < (l1.length : Int) := of_decide_eq_true (by first | (with_reducible assumption) | assumption)
                obtain ⟨ad807, A807_0, c807_0, e807, hx807_0, hl807_0, hi807_0⟩ := at_L1 HR1.out x5_1 p807 q807
                cases e807
                have HR807_0 := Aside0.mk hi807_0
                have HC807_0 := Aside0.mk hl807_0
                clear hi807_0 hl807_0
                replace p807 := eq_true p807
                replace q807 := eq_true q807
                go_wp2_with (first | (go_at_call 18; (with_reducible refine (laws_eqInt64S.calls k1 _ _ (rd_L1 l0 x5_1) _ _ (rd_L1 l1 x5_1) false _ ?side1 ?side2 ?side3 ?side4 A7.out).mono ?_); (case side1 => repeat (first | exact HR806_0.out | (with_reducible refine Kd.C_alloc ?_ _) | (with_reducible refine Kd.C_drewN ?_ _) | (with_reducible refine Kd.C_drew ?_))); (case side2 => exact HC806_0.out); (case side3 => repeat (first | exact HR807_0.out | (with_reducible refine Kd.C_alloc ?_ _) | (with_reducible refine Kd.C_drewN ?_ _) | (with_reducible refine Kd.C_drew ?_))); (case side4 => exact HC807_0.out); rintro e w' ⟨rfl, ⟨nd, rfl⟩⟩; (try first | exact ⟨rfl, _, World.drewN_drewN _ _ _⟩ | exact ⟨rfl, _, Eq.trans (World.drewN_drewN _ _ _) (congrArg (World.drewN _) (Nat.add_assoc _ _ _))⟩)))
                repeat (go_quiet (first | (go_at_call 18; (with_reducible refine (laws_eqInt64S.calls k1 _ _ (rd_L1 l0 x5_1) _ _ (rd_L1 l1 x5_1) false _ ?side1 ?side2 ?side3 ?side4 A7.out).mono ?_); (case side1 => repeat (first | exact HR806_0.out | (with_reducible refine Kd.C_alloc ?_ _) | (with_reducible refine Kd.C_drewN ?_ _) | (with_reducible refine Kd.C_drew ?_))); (case side2 => exact HC806_0.out); (case side3 => repeat (first | exact HR807_0.out | (with_reducible refine Kd.C_alloc ?_ _) | (with_reducible refine Kd.C_drewN ?_ _) | (with_reducible refine Kd.C_drew ?_))); (case side4 => exact HC807_0.out); rintro e w' ⟨rfl, ⟨nd, rfl⟩⟩; (try first | exact ⟨rfl, _, World.drewN_drewN _ _ _⟩ | exact ⟨rfl, _, Eq.trans (World.drewN_drewN _ _ _) (congrArg (World.drewN _) (Nat.add_assoc _ _ _))⟩))); try go_wp2_with (first | (go_at_call 18; (with_reducible refine (laws_eqInt64S.calls k1 _ _ (rd_L1 l0 x5_1) _ _ (rd_L1 l1 x5_1) false _ ?side1 ?side2 ?side3 ?side4 A7.out).mono ?_); (case side1 => repeat (first | exact HR806_0.out | (with_reducible refine Kd.C_alloc ?_ _) | (with_reducible refine Kd.C_drewN ?_ _) | (with_reducible refine Kd.C_drew ?_))); (case side2 => exact HC806_0.out); (case side3 => repeat (first | exact HR807_0.out | (with_reducible refine Kd.C_alloc ?_ _) | (with_reducible refine Kd.C_drewN ?_ _) | (with_reducible refine Kd.C_drew ?_))); (case side4 => exact HC807_0.out); rintro e w' ⟨rfl, ⟨nd, rfl⟩⟩; (try first | exact ⟨rfl, _, World.drewN_drewN _ _ _⟩ | exact ⟨rfl, _, Eq.trans (World.drewN_drewN _ _ _) (congrArg (World.drewN _) (Nat.add_assoc _ _ _))⟩))))
                go_ret
                exact ⟨by first | rfl | (simp; done) | (simp [*]; done) | (simp [Int.tdiv_eq_ediv_of_nonneg, *]; done), by repeat (first | exact Drawn0.refl _ | apply Drawn0.step)⟩
            · rw [if_neg c6] at H
              exact absurd H (by simp)
          · rw [if_neg c5] at H
            exact absurd H (by simp)
        · rw [if_neg c4] at H
          have c4b0 : decide (x5_1 < (l0.length : Int)) = false := decide_eq_false c4
          clear c4
          obtain rfl := Option.some.inj H
          go_wp2
          repeat (go_quiet (fail); try go_wp2)
          go_ret
          exact ⟨by first | rfl | (simp; done) | (simp [*]; done) | (simp [Int.tdiv_eq_ediv_of_nonneg, *]; done), by repeat (first | exact Drawn0.refl _ | apply Drawn0.step)⟩
  · rw [if_neg c3] at H
    have c3b0 : ((l0.length : Int) == (l1.length : Int)) = false := beq_eq_false_iff_ne.mpr c3
    have c3b1 : ((l0.length : Int) != (l1.length : Int)) = true := bne_iff_ne.mpr c3
    have c3b2 : (l0.length == l1.length) = false := by first | simpa using c3 | (simp at c3 ⊢; omega)
    obtain rfl := Option.some.inj H
    go_enter Try.func50, Try.ntmps50
    go_wp2
    repeat (go_quiet (fail); try go_wp2)
    go_ret
    exact ⟨by first | rfl | (simp; done) | (simp [*]; done) | (simp [Int.tdiv_eq_ediv_of_nonneg, *]; done), by repeat (first | exact Drawn0.refl _ | apply Drawn0.step)⟩

/-! ### laws_markInt64SS: function 51 -/
def laws_markInt64SS.l0 : Nat → List (List Int) → Int → Int → Option (Int × List (List Int))
  | 0, _, _, _ => none
  | k + 1, x0, x1, x5 => if x5 < (x0.length : Int) then (if 0 ≤ x5 then ((laws_markInt64S.f k (x0.getD (x5 : Int).toNat ([] : List Int)) x1).bind fun bt => (laws_markInt64SS.l0 k (x0.set (x5 : Int).toNat bt.2) bt.1 (wrap64 (x5 + 1)))) else (none)) else (some (x1, x0))
def laws_markInt64SS.f (k : Nat) (l0 : List (List Int)) (a1 : Int) : Option (Int × List (List Int)) := laws_markInt64SS.l0 k l0 a1 0
theorem laws_markInt64SS.mono_l : ∀ k, (∀ y0 y1 y2, LeO (laws_markInt64SS.l0 k y0 y1 y2) (laws_markInt64SS.l0 (k + 1) y0 y1 y2))
  | 0 => fun _ _ _ r h => by simp [laws_markInt64SS.l0] at h
  | k + 1 => by
    have ih0 := laws_markInt64SS.mono_l k
    · intro y0 y1 y2
      unfold laws_markInt64SS.l0
      repeat' first
      | (with_reducible exact ih0 _ _ _)
      | (with_reducible exact laws_markInt64S.mono _ _ _)
      | (with_reducible exact LeO.refl _)
      | (with_reducible exact LeO.none _)
      | (with_reducible refine LeO.ite ?_ ?_)
      | (with_reducible refine LeO.bind ?_ (fun _ => ?_))
      | exact ih0 _ _ _
      | exact laws_markInt64S.mono _ _ _
      | exact LeO.none _
      | refine LeO.ite ?_ ?_
      | refine LeO.bind ?_ (fun _ => ?_)
theorem laws_markInt64SS.mono : ∀ a0 a1 k, LeO (laws_markInt64SS.f k a0 a1) (laws_markInt64SS.f (k + 1) a0 a1) := by
  intro a0 a1 k
  have ih0 := laws_markInt64SS.mono_l k
  unfold laws_markInt64SS.f
  exact ih0 _ _ _
set_option maxHeartbeats 8000000 in
set_option maxRecDepth 100000 in
theorem laws_markInt64SS.calls (k : Nat) (P0_ : Nat → Prop) (u9000_ : Value) (l0 : List (List Int)) (a1 : Int) (r1 : Int) (r2 : List (List Int)) (w0 w : World) (hB : Below w0.heap.size w0 w) (ho0 : Kd.S (Kd.slice 2 (Kd.int .i64)) 22 w w0.heap.size P0_ u9000_ l0) (h : laws_markInt64SS.f k l0 a1 = some (r1, r2)) :
    Calls Try.prog 51 #[u9000_, .int .i64 a1] w fun e w' => e = .returned (.int .i64 r1) ∧ Kd.S (Kd.slice 2 (Kd.int .i64)) 22 w' w0.heap.size (fun k_ => (P0_ k_ ∨ w.heap.size ≤ k_)) u9000_ r2 ∧ Below w0.heap.size w0 w' ∧ Kept w w' (fun k_ => P0_ k_) := by
  have HO0 := Aside0.mk (show Kd.S (Kd.slice 2 (Kd.int .i64)) 22 w w0.heap.size (fun k_ => (P0_ k_ ∨ w.heap.size ≤ k_)) u9000_ l0 from Kd.S_mono ho0 (fun k_ hk => (.inl hk)))
  have HK := Aside0.mk (Kept.refl w (fun k_ => P0_ k_))
  have HB := Aside0.mk hB
  clear hB ho0
  have H : (laws_markInt64SS.l0 k l0 a1 0) = some (r1, r2) := h
  clear h
  have H' := Aside0.mk H
  clear H
  go_enter Try.func51, Try.ntmps51
  go_wp2
  go_loopg [1, 5] k (fun kq v1 v5 w' => ∃ (x0_1 : List (List Int)) (x1_1 : Int) (x5_1 : Int), v1 = .int .i64 x1_1 ∧ v5 = .int .i64 x5_1 ∧ Aside0 (laws_markInt64SS.l0 kq x0_1 x1_1 x5_1 = some (r1, r2)) ∧ Aside0 (kq ≤ k) ∧ Aside0 (Kd.S (Kd.slice 2 (Kd.int .i64)) 22 w' w0.heap.size (fun k_ => (P0_ k_ ∨ w.heap.size ≤ k_)) u9000_ x0_1) ∧ Aside0 (Kept w w' (fun k_ => P0_ k_)) ∧ Aside0 (Below w0.heap.size w0 w'))
  case atStart => exact ⟨(l0), (a1), (0), (by first | rfl | (simp; done)), (by first | rfl | (simp; done)), H', ⟨Nat.le_refl _⟩, ⟨by (with_reducible repeat (first | apply Kd.S_alloc | apply Kd.S_drewN | apply Kd.S_drew)); exact HO0.out⟩, ⟨by repeat (first | (with_reducible first | exact HK.out | apply Kept.alloc | apply Kept.drewN | apply Kept.drew) | exact HK.out)⟩, ⟨by repeat (first | (with_reducible first | exact HB.out | apply below_alloc | apply pw_below_drewN | apply below_drew1) | exact HB.out)⟩⟩
  case round =>
    clear H'
    obtain ⟨x0_1, x1_1, x5_1, rfl, rfl, HA, HK1, HO_0, HK, HB⟩ := hrel
    cases gk with
    | zero => exact absurd HA.out (by simp [laws_markInt64SS.l0])
    | succ k1 =>
      have H := HA.out
      clear HA
      simp only [laws_markInt64SS.l0] at H
      by_cases c3 : x5_1 < (x0_1.length : Int)
      · rw [if_pos c3] at H
        have c3b0 : decide (x5_1 < (x0_1.length : Int)) = true := decide_eq_true c3
        by_cases c4 : 0 ≤ x5_1
        · rw [if_pos c4] at H
          have c4b0 : decide (0 ≤ x5_1) = true := decide_eq_true c4
          replace H := Option.bind_eq_some_iff.mp H
          obtain ⟨⟨t1, t2⟩, A50, H⟩ := H
          obtain ⟨row, hrow⟩ : ∃ row, row = x0_1.getD (x5_1 : Int).toNat ([] : List Int) := ⟨_, rfl⟩
          rw [← hrow] at A50
          have A5 := Aside0.mk A50
          clear A50
          have H' := Aside0.mk H
          clear H
          obtain ⟨Ao6, co6, eo6⟩ := Kd.S_slice HO_0.out
          subst eo6
          obtain ⟨go5, co5, eo5, gb5, gl5, HG5⟩ := Kd.S_form HO_0.out (by omega)
          (first | cases eo5 | (injection eo5 with ea_ en_ ec_; (first | subst ea_ | (injection ea_ with ea_; subst ea_)); subst ec_; clear en_))
          clear gb5 gl5 HG5
          obtain ⟨oki, c, hcl, hM, hcc, hok, hH⟩ := Kd.S_lend HO_0.out ([] : List Int) x5_1 c4 (by omega)
          rw [← hrow] at hM
          clear hrow
          obtain ⟨vr, rfl, hRow⟩ := hM
          obtain ⟨A1, c1, ev⟩ := Kd.R_slice hRow
          subst ev
          have hx := hcc 0 _ rfl
          rw [Nat.add_zero, show ((Kd.slice 2 (Kd.int .i64))).sz = 1 from rfl, Nat.mul_one] at hx
          have HROW := Aside0.mk hRow
          have HHOLE := Aside0.mk hH
          have HOK := Aside0.mk hok
          clear hcc hcl hRow hH hok
          have p5 := eq_true c4
          have q5 := eq_true c3
          clear c3 c4
          go_wp2_with (first | (go_at_call 19; (with_reducible refine (laws_markInt64S.calls k1 oki _ _ x1_1 t1 t2 w0 _ HB.out HROW.out A5.out).mono ?_); rintro e w8 ⟨rfl, hR2, hB2, hK2⟩; refine ⟨_, rfl, ?_⟩; have HR2 := Aside0.mk hR2; have HB2 := Aside0.mk hB2; have HK2 := Aside0.mk hK2; clear hR2 hB2 hK2) | (go_at_call 19; (with_reducible refine (laws_markInt64S.calls k1 oki _ _ x1_1 t1 t2 w0 _ HB.out HROW.out A5.out).mono ?_); rintro e w8 ⟨rfl, hR2, hB2, hK2⟩; have HR2 := Aside0.mk hR2; have HB2 := Aside0.mk hB2; have HK2 := Aside0.mk hK2; clear hR2 hB2 hK2))
          go_roundg k1
          case measure => have := HK1.out; omega
          case rel =>
            refine ⟨_, _, _, (by first | rfl | (simp; done) | (simp [*]; done) | (simp [Int.tdiv_eq_ediv_of_nonneg, *]; done)), (by first | rfl | (simp; done) | (simp [*]; done) | (simp [Int.tdiv_eq_ediv_of_nonneg, *]; done)), H', ⟨by have := HK1.out; omega⟩, ⟨?_⟩, ⟨?_⟩, HB2⟩
            · have hs := HK.out.1
              have h1 := Kd.H_step (Kd.H_widen HHOLE.out) (fun q hq hn hlt => HK2.out.2 q hlt (fun ho => hn (.inl ho)))
              refine Kd.H_back h1 (x' := t2) (okp := fun q => oki q ∨ _ ≤ q) ⟨_, rfl, HR2.out⟩ ?_
              rintro q (hq | hq)
              · exact .inl hq
              · exact .inr ⟨.inr (Nat.le_trans hs hq), hq⟩
            · have hs := HK.out.1
              refine ⟨Nat.le_trans hs HK2.out.1, fun q hq hn => ?_⟩
              refine (HK2.out.2 q (Nat.lt_of_lt_of_le hq hs) (fun ho => ?_)).trans (HK.out.2 q hq hn)
              rcases (HOK.out q ho).1 with h1 | h1
              · exact hn h1
              · omega
        · rw [if_neg c4] at H
          exact absurd H (by simp)
      · rw [if_neg c3] at H
        have c3b0 : decide (x5_1 < (x0_1.length : Int)) = false := decide_eq_false c3
        clear c3
        simp only [Option.some.injEq, Prod.mk.injEq] at H
        obtain ⟨rfl, rfl⟩ := H
        obtain ⟨Ao9, co9, eo9⟩ := Kd.S_slice HO_0.out
        subst eo9
        go_wp2
        go_ret
        exact ⟨by first | rfl | (simp; done) | (simp [*]; done) | (simp [Int.tdiv_eq_ediv_of_nonneg, *]; done), by (with_reducible repeat (first | apply Kd.S_alloc | apply Kd.S_drewN | apply Kd.S_drew)); exact HO_0.out, by repeat (first | (with_reducible first | exact HB.out | apply below_alloc | apply pw_below_drewN | apply below_drew1) | exact HB.out), by repeat (first | (with_reducible first | exact HK.out | apply Kept.alloc | apply Kept.drewN | apply Kept.drew) | exact HK.out)⟩

/-! ### laws_heldInt64SS: function 52 -/
def laws_heldInt64SS.l0 : Nat → List (List Int) → Int → Int → Option (Int)
  | 0, _, _, _ => none
  | k + 1, x0, x1, x5 => if x5 < (x0.length : Int) then (if 0 ≤ x5 then ((laws_heldInt64S.f k (rd_L1 x0 x5) x1).bind fun t810 => (if t810 < 0 then (some (-1)) else (laws_heldInt64SS.l0 k x0 t810 (wrap64 (x5 + 1))))) else (none)) else (some x1)
def laws_heldInt64SS.f (k : Nat) (l0 : List (List Int)) (a1 : Int) : Option (Int) := laws_heldInt64SS.l0 k l0 a1 0
theorem laws_heldInt64SS.mono_l : ∀ k, (∀ y0 y1 y2, LeO (laws_heldInt64SS.l0 k y0 y1 y2) (laws_heldInt64SS.l0 (k + 1) y0 y1 y2))
  | 0 => fun _ _ _ r h => by simp [laws_heldInt64SS.l0] at h
  | k + 1 => by
    have ih0 := laws_heldInt64SS.mono_l k
    · intro y0 y1 y2
      unfold laws_heldInt64SS.l0
      repeat' first
      | (with_reducible exact ih0 _ _ _)
      | (with_reducible exact laws_heldInt64S.mono _ _ _)
      | (with_reducible exact LeO.refl _)
      | (with_reducible exact LeO.none _)
      | (with_reducible refine LeO.ite ?_ ?_)
      | (with_reducible refine LeO.bind ?_ (fun _ => ?_))
      | exact ih0 _ _ _
      | exact laws_heldInt64S.mono _ _ _
      | exact LeO.none _
      | refine LeO.ite ?_ ?_
      | refine LeO.bind ?_ (fun _ => ?_)
theorem laws_heldInt64SS.mono : ∀ a0 a1 k, LeO (laws_heldInt64SS.f k a0 a1) (laws_heldInt64SS.f (k + 1) a0 a1) := by
  intro a0 a1 k
  have ih0 := laws_heldInt64SS.mono_l k
  unfold laws_heldInt64SS.f
  repeat' first
      | (with_reducible exact ih0 _ _ _)
      | (with_reducible exact laws_heldInt64S.mono _ _ _)
      | (with_reducible exact LeO.refl _)
      | (with_reducible exact LeO.none _)
      | (with_reducible refine LeO.ite ?_ ?_)
      | (with_reducible refine LeO.bind ?_ (fun _ => ?_))
      | exact ih0 _ _ _
      | exact laws_heldInt64S.mono _ _ _
      | exact LeO.none _
      | refine LeO.ite ?_ ?_
      | refine LeO.bind ?_ (fun _ => ?_)
set_option maxHeartbeats 8000000 in
set_option maxRecDepth 100000 in
theorem laws_heldInt64SS.calls (k : Nat) (A0 : Option Addr) (c0 : Nat) (l0 : List (List Int)) (a1 : Int) (r : Int) (w : World) (hr0 : Kd.C (Kd.slice 2 (Kd.int .i64)) w A0 l0.length l0) (hc0 : l0.length ≤ c0) (h : laws_heldInt64SS.f k l0 a1 = some r) :
    Calls Try.prog 52 #[.slice A0 l0.length c0, .int .i64 a1] w fun e w' => e = .returned (.int .i64 r) ∧ Drawn0 w w' := by
  have HR0 := Aside0.mk hr0
  have HC0 := Aside0.mk hc0
  clear hr0 hc0
  have H : (laws_heldInt64SS.l0 k l0 a1 0) = some r := h
  clear h
  have H' := Aside0.mk H
  clear H
  go_enter Try.func52, Try.ntmps52
  go_wp2
  go_loopg [1, 5] k (fun kq v1 v5 w' => ∃ (x1_1 : Int) (x5_1 : Int), v1 = .int .i64 x1_1 ∧ v5 = .int .i64 x5_1 ∧ Aside0 (laws_heldInt64SS.l0 kq l0 x1_1 x5_1 = some r) ∧ Aside0 (kq ≤ k) ∧ Drawn0 w w')
  case atStart => exact ⟨(a1), (0), (by first | rfl | (simp; done) | (simp [*]; done) | (simp [Int.tdiv_eq_ediv_of_nonneg, *]; done)), (by first | rfl | (simp; done) | (simp [*]; done) | (simp [Int.tdiv_eq_ediv_of_nonneg, *]; done)), H', ⟨Nat.le_refl _⟩, by repeat (first | exact Drawn0.refl _ | apply Drawn0.step)⟩
  case round =>
    clear H'
    try clear p2
    obtain ⟨x1_1, x5_1, rfl, rfl, HA, HK1, ⟨m1, rfl⟩⟩ := hrel
    cases gk with
    | zero => exact absurd HA.out (by simp [laws_heldInt64SS.l0])
    | succ k1 =>
      have H := HA.out
      clear HA
      simp only [laws_heldInt64SS.l0] at H
      by_cases c3 : x5_1 < (l0.length : Int)
      · rw [if_pos c3] at H
        have c3b0 : decide (x5_1 < (l0.length : Int)) = true := decide_eq_true c3
        clear c3
        by_cases c4 : 0 ≤ x5_1
        · rw [if_pos c4] at H
          have c4b0 : decide (0 ≤ x5_1) = true := decide_eq_true c4
          clear c4
          replace H := Option.bind_eq_some_iff.mp H
          obtain ⟨t810, A50, H⟩ := H
          replace H : (if t810 < 0 then (some (-1)) else (laws_heldInt64SS.l0 k1 l0 t810 (wrap64 (x5_1 + 1)))) = some r := H
          have A5 := Aside0.mk A50
          clear A50
          by_cases c6 : t810 < 0
          · rw [if_pos c6] at H
            have c6b0 : decide (t810 < 0) = true := decide_eq_true c6
            clear c6
            obtain rfl := Option.some.inj H
            have p809 : 0 ≤ (x5_1 : Int) := of_decide_eq_true (by first | (with_reducible assumption) | assumption)
            have q809 : x5_1 < (l0.length : Int) := of_decide_eq_true (by first | (with_reducible assumption) | assumption)
            obtain ⟨ad809, A809_0, c809_0, e809, hx809_0, hl809_0, hi809_0⟩ := at_L1 HR0.out x5_1 p809 q809
            cases e809
            have HR809_0 := Aside0.mk hi809_0
            have HC809_0 := Aside0.mk hl809_0
            clear hi809_0 hl809_0
            replace p809 := eq_true p809
            replace q809 := eq_true q809
            go_wp2_with (first | ((with_reducible refine gate_callee (f := 20) rfl ?_); refine goesL_ (some 17) rfl rfl Try.func20 (by kernel_rfl) rfl #[.slice A809_0 (rd_L1 l0 x5_1).length c809_0, .int .i64 x1_1] rfl (by (try simp only [List.map_toArray, List.map_cons, List.map_nil]); first | done | rfl | (simp only [List.length_drop, List.length_take]; rfl)) ?_; (with_reducible refine (laws_heldInt64S.calls k1 _ _ (rd_L1 l0 x5_1) x1_1 t810 _ ?side1 ?side2 A5.out).mono ?_); (case side1 => repeat (first | exact HR809_0.out | (with_reducible refine Kd.C_alloc ?_ _) | (with_reducible refine Kd.C_drewN ?_ _) | (with_reducible refine Kd.C_drew ?_))); (case side2 => exact HC809_0.out); rintro e w' ⟨rfl, ⟨nd, rfl⟩⟩; refine ⟨_, rfl, ?_⟩))
            go_ret
            exact ⟨by first | rfl | (simp; done) | (simp [*]; done) | (simp [Int.tdiv_eq_ediv_of_nonneg, *]; done), by repeat (first | exact Drawn0.refl _ | apply Drawn0.step)⟩
          · rw [if_neg c6] at H
            have c6b0 : decide (t810 < 0) = false := decide_eq_false c6
            clear c6
            have H' := Aside0.mk H
            clear H
            have p809 : 0 ≤ (x5_1 : Int) := of_decide_eq_true (by first | (with_reducible assumption) | assumption)
            have q809 : x5_1 < (l0.length : Int) := of_decide_eq_true (by first | (with_reducible assumption) | assumption)
            obtain ⟨ad809, A809_0, c809_0, e809, hx809_0, hl809_0, hi809_0⟩ := at_L1 HR0.out x5_1 p809 q809
            cases e809
            have HR809_0 := Aside0.mk hi809_0
            have HC809_0 := Aside0.mk hl809_0
            clear hi809_0 hl809_0
            replace p809 := eq_true p809
            replace q809 := eq_true q809
            go_wp2_with (first | ((with_reducible refine gate_callee (f := 20) rfl ?_); refine goesL_ (some 17) rfl rfl Try.func20 (by kernel_rfl) rfl #[.slice A809_0 (rd_L1 l0 x5_1).length c809_0, .int .i64 x1_1] rfl (by (try simp only [List.map_toArray, List.map_cons, List.map_nil]); first | done | rfl | (simp only [List.length_drop, List.length_take]; rfl)) ?_; (with_reducible refine (laws_heldInt64S.calls k1 _ _ (rd_L1 l0 x5_1) x1_1 t810 _ ?side1 ?side2 A5.out).mono ?_); (case side1 => repeat (first | exact HR809_0.out | (with_reducible refine Kd.C_alloc ?_ _) | (with_reducible refine Kd.C_drewN ?_ _) | (with_reducible refine Kd.C_drew ?_))); (case side2 => exact HC809_0.out); rintro e w' ⟨rfl, ⟨nd, rfl⟩⟩; refine ⟨_, rfl, ?_⟩))
            go_roundg k1
            case measure => have := HK1.out; omega
            case rel => exact ⟨(t810), (wrap64 (x5_1 + 1)), (by first | rfl | (simp; done) | (simp [*]; done) | (simp [Int.tdiv_eq_ediv_of_nonneg, *]; done)), (by first | rfl | (simp; done) | (simp [*]; done) | (simp [Int.tdiv_eq_ediv_of_nonneg, *]; done)), H', ⟨by have := HK1.out; omega⟩, by repeat (first | exact Drawn0.refl _ | apply Drawn0.step)⟩
        · rw [if_neg c4] at H
          exact absurd H (by simp)
      · rw [if_neg c3] at H
        have c3b0 : decide (x5_1 < (l0.length : Int)) = false := decide_eq_false c3
        clear c3
        obtain rfl := Option.some.inj H
        go_wp2
        go_ret
        exact ⟨by first | rfl | (simp; done) | (simp [*]; done) | (simp [Int.tdiv_eq_ediv_of_nonneg, *]; done), by repeat (first | exact Drawn0.refl _ | apply Drawn0.step)⟩

/-! ### laws_FnExactStretchesAt: function 10 -/
def laws_FnExactStretchesAt.f (k : Nat) (l0 : List Int) (a1 : Int) : Option (Bool) :=
  if (l0.length : Int) > 1048576 then some true else
  (laws_toInt64S.f k l0).bind fun t1 => (spec_StretchesAt.f k t1 a1).bind fun b2 => (impl_StretchesAt.f k t1 a1).bind fun b4 =>
  (laws_eqInt64SS.f k b4.1 b2.1).bind fun t5 => if t5 = true then (if b4.2 = b2.2 then
  ((laws_eqInt64S.f k t1 t1).bind fun t7 => if t7 = true then
  ((laws_markInt64S.f k t1 1).bind fun b8 => if b8.1 < 0 then none else
  (laws_markInt64SS.f k b4.1 1).bind fun b10 => (laws_heldInt64SS.f k b10.2 1).bind fun t11 => if t11 < 0 then none else
  if t11 = b10.1 then some true else none) else none) else none) else none
set_option maxHeartbeats 8000000 in
set_option maxRecDepth 100000 in
theorem laws_FnExactStretchesAt.calls (k : Nat) (A0 : Option Addr) (c0 : Nat) (l0 : List Int) (a1 : Int) (r : Bool) (w : World) (hr0 : Kd.C (Kd.int .i64) w A0 l0.length l0) (hc0 : l0.length ≤ c0) (h : laws_FnExactStretchesAt.f k l0 a1 = some r) :
    Calls Try.prog 10 #[.slice A0 l0.length c0, .int .i64 a1] w fun e w' => e = .returned (.bool r) ∧ Below w.heap.size w w' := by
  have db : ∀ {w w' : World}, Drawn0 w w' → Below w.heap.size w w' := by
    intro w w' h_
    obtain ⟨n_, rfl⟩ := h_
    exact pw_below_drewN (Below.refl _ _) _
  have HR0 := Aside0.mk hr0
  have HC0 := Aside0.mk hc0
  clear hr0 hc0
  have HB := Aside0.mk (Below.refl w.heap.size w)
  unfold laws_FnExactStretchesAt.f at h
  by_cases c1 : (l0.length : Int) > 1048576
  · rw [if_pos c1] at h
    obtain rfl := Option.some.inj h
    have c1b0 : decide (1048576 < (l0.length : Int)) = true := decide_eq_true c1
    clear c1 h
    go_enter Try.func10, Try.ntmps10
    go_wp2
    go_ret
    exact ⟨by first | rfl | (simp; done), by repeat (first | (with_reducible first | exact HB.out | apply below_alloc | apply pw_below_drewN | apply below_drew1) | exact HB.out)⟩
  · rw [if_neg c1] at h
    have c1b0 : decide (1048576 < (l0.length : Int)) = false := decide_eq_false c1
    clear c1
    replace h := Option.bind_eq_some_iff.mp h
    obtain ⟨t1, A1, h⟩ := h
    replace h := Option.bind_eq_some_iff.mp h
    obtain ⟨⟨s2, g2⟩, A2, h⟩ := h
    replace h := Option.bind_eq_some_iff.mp h
    obtain ⟨⟨s4, g4⟩, A4, h⟩ := h
    replace h := Option.bind_eq_some_iff.mp h
    obtain ⟨t5, A5, h⟩ := h
    dsimp only at A5 h
    by_cases c5 : t5 = true
    · rw [if_pos c5] at h
      subst c5
      by_cases c6 : g4 = g2
      · rw [if_pos c6] at h
        have c6b0 : (g4 != g2) = false := by simpa using c6
        have c6b1 : decide (g4 = g2) = true := by simpa using c6
        have c6b2 : (g4 == g2) = true := by simpa using c6
        clear c6
        replace h := Option.bind_eq_some_iff.mp h
        obtain ⟨t7, A7, h⟩ := h
        by_cases c7 : t7 = true
        · rw [if_pos c7] at h
          subst c7
          replace h := Option.bind_eq_some_iff.mp h
          obtain ⟨⟨k8, l8⟩, A8, h⟩ := h
          dsimp only at h
          by_cases c8 : k8 < 0
          · rw [if_pos c8] at h
            exact absurd h (by simp)
          · rw [if_neg c8] at h
            have c8b0 : decide (k8 < 0) = false := decide_eq_false c8
            clear c8
            replace h := Option.bind_eq_some_iff.mp h
            obtain ⟨⟨m10, l10⟩, A10, h⟩ := h
            replace h := Option.bind_eq_some_iff.mp h
            obtain ⟨t11, A11, h⟩ := h
            dsimp only at A11 h
            by_cases c11 : t11 < 0
            · rw [if_pos c11] at h
              exact absurd h (by simp)
            · rw [if_neg c11] at h
              have c11b0 : decide (t11 < 0) = false := decide_eq_false c11
              clear c11
              by_cases c12 : t11 = m10
              · have hx : some true = some r := by rw [if_pos c12] at h; exact h
                have hr := Option.some.inj hx
                clear hx h
                subst c12
                subst hr
                have B1 := Aside0.mk A1
                have B2 := Aside0.mk A2
                have B4 := Aside0.mk A4
                have B5 := Aside0.mk A5
                have B7 := Aside0.mk A7
                have B8 := Aside0.mk A8
                have B10 := Aside0.mk A10
                have B11 := Aside0.mk A11
                have DB := Aside0.mk @db
                clear A1 A2 A4 A5 A7 A8 A10 A11 db
                go_enter Try.func10, Try.ntmps10
                -- the copy for the reference, and what it tells
                go_wp2_with (first | (go_at_call 16; (with_reducible refine (laws_toInt64S.calls k A0 c0 l0 t1 _ HR0.out HC0.out B1.out).mono ?_); rintro e w1 ⟨v1, rfl, ho, hb⟩; have HO1 := Aside0.mk ho; have HB1 := Aside0.mk hb; clear ho hb HB))
                obtain ⟨Ao1, co1, eo1⟩ := Kd.R_slice HO1.out
                subst eo1
                go_wp2_with (first | (go_at_call 48; (with_reducible refine (spec_StretchesAt.calls k Ao1 co1 t1 a1 s2 g2 _ (Kd.R_reads' HO1.out).2.2 (Kd.R_reads' HO1.out).2.1 B2.out).mono ?_); rintro e w2 ⟨v2, rfl, ho, hb⟩; have HO2 := Aside0.mk ho; have HB2 := Aside0.mk (below_step HB1.out hb); clear ho hb HO1))
                obtain ⟨Ao2, co2, eo2⟩ := Kd.S_slice HO2.out
                subst eo2
                have HS2 := Aside0.mk (Kd.S_mono (ok' := fun q => q < w2.heap.size) (Kd.S_bound HO2.out) (fun q hq => hq.2.2.1))
                clear HO2
                -- the program's own copy, and what it tells
                go_wp2_with (first | (go_at_call 16; (with_reducible refine (laws_toInt64S.calls k A0 c0 l0 t1 _ (Kd.C_below HR0.out HB2.out) HC0.out B1.out).mono ?_); rintro e w3 ⟨v3, rfl, ho, hb⟩; have HO3 := Aside0.mk ho; have HB3 := Aside0.mk (below_step HB2.out hb); have HN23 := Aside0.mk hb.size; have HS3 := Aside0.mk (Kd.S_below HS2.out hb); clear ho hb HS2))
                obtain ⟨Ao3, co3, eo3⟩ := Kd.R_slice HO3.out
                subst eo3
                have HX3 := Aside0.mk (Kd.R_mono (ok' := fun q => w2.heap.size ≤ q ∧ q < w3.heap.size) (Kd.R_bound HO3.out) (fun q hq => ⟨hq.2.1, hq.2.2.1⟩))
                clear HO3
                go_wp2_with (first | (go_at_call 49; (with_reducible refine (impl_StretchesAt.calls k Ao3 co3 t1 a1 s4 g4 _ (Kd.R_reads' HX3.out).2.2 (Kd.R_reads' HX3.out).2.1 B4.out).mono ?_); rintro e w4 ⟨v4, rfl, ho, hb⟩; have HO4 := Aside0.mk ho; have HB4 := Aside0.mk (below_step HB3.out hb); have HS4 := Aside0.mk (Kd.S_below HS3.out hb); have HX4 := Aside0.mk (Kd.R_below HX3.out hb); clear ho hb HS3 HX3))
                obtain ⟨Ao4, co4, eo4⟩ := Kd.S_slice HO4.out
                subst eo4
                have HG4 := Aside0.mk (Kd.S_mono (ok' := fun q => w3.heap.size ≤ q) (Kd.S_bound HO4.out) (fun q hq => hq.2.1))
                clear HO4
                go_wp2_with (first | (go_at_call 50; (with_reducible refine (laws_eqInt64SS.calls k Ao4 co4 s4 Ao2 co2 s2 true _ (Kd.S_reads' HG4.out).2.2 (Kd.S_reads' HG4.out).2.1 (Kd.S_reads' HS4.out).2.2 (Kd.S_reads' HS4.out).2.1 B5.out).mono ?_); rintro e w5 ⟨rfl, hd⟩; have hb := DB.out hd; have HB5 := Aside0.mk (below_step HB4.out hb); have HS5 := Aside0.mk (Kd.S_below HS4.out hb); have HX5 := Aside0.mk (Kd.R_below HX4.out hb); have HG5 := Aside0.mk (Kd.S_below HG4.out hb); clear hd hb HS4 HX4 HG4))
                -- the argument is as it was
                go_wp2_with (first | (go_at_call 16; (with_reducible refine (laws_toInt64S.calls k A0 c0 l0 t1 _ (Kd.C_below HR0.out HB5.out) HC0.out B1.out).mono ?_); rintro e w6 ⟨v6, rfl, ho, hb⟩; have HO6 := Aside0.mk ho; have HB6 := Aside0.mk (below_step HB5.out hb); have HS6 := Aside0.mk (Kd.S_below HS5.out hb); have HX6 := Aside0.mk (Kd.R_below HX5.out hb); have HG6 := Aside0.mk (Kd.S_below HG5.out hb); clear ho hb HS5 HX5 HG5))
                obtain ⟨Ao6, co6, eo6⟩ := Kd.R_slice HO6.out
                subst eo6
                go_wp2_with (first | (go_at_call 18; (with_reducible refine (laws_eqInt64S.calls k Ao3 co3 t1 Ao6 co6 t1 true _ (Kd.R_reads' HX6.out).2.2 (Kd.R_reads' HX6.out).2.1 (Kd.R_reads' HO6.out).2.2 (Kd.R_reads' HO6.out).2.1 B7.out).mono ?_); rintro e w7 ⟨rfl, hd⟩; have hb := DB.out hd; have HB7 := Aside0.mk (below_step HB6.out hb); have HS7 := Aside0.mk (Kd.S_below HS6.out hb); have HX7 := Aside0.mk (Kd.R_below HX6.out hb); have HG7 := Aside0.mk (Kd.S_below HG6.out hb); clear hd hb HS6 HX6 HG6 HO6))
                -- the argument is marked
                have HN2 := Aside0.mk HB2.out.size
                go_wp2_with (first | (go_at_call 19; (with_reducible refine (laws_markInt64S.calls k (fun q => w2.heap.size ≤ q ∧ q < w3.heap.size) _ t1 1 k8 l8 w _ HB7.out (Kd.R_lower HX7.out HN2.out) B8.out).mono ?_); rintro e w8 ⟨rfl, hy, hb, hk⟩; have HB8 := Aside0.mk hb; have HS8 := Aside0.mk (Kd.S_step HS7.out (fun q hq hlt => hk.2 q hlt (fun hs => by omega))); have HG8 := Aside0.mk (Kd.S_step HG7.out (fun q hq hlt => hk.2 q hlt (fun hs => by omega))); clear hy hb hk HS7 HX7 HG7))
                go_wp2_with (first | (go_at_call 50; (with_reducible refine (laws_eqInt64SS.calls k Ao4 co4 s4 Ao2 co2 s2 true _ (Kd.S_reads' HG8.out).2.2 (Kd.S_reads' HG8.out).2.1 (Kd.S_reads' HS8.out).2.2 (Kd.S_reads' HS8.out).2.1 B5.out).mono ?_); rintro e w9 ⟨rfl, hd⟩; have hb := DB.out hd; have HB9 := Aside0.mk (below_step HB8.out hb); have HS9 := Aside0.mk (Kd.S_below HS8.out hb); have HG9 := Aside0.mk (Kd.S_below HG8.out hb); clear hd hb HS8 HG8))
                -- the answer is marked, and holds its marks
                have HN3 := Aside0.mk HB3.out.size
                go_wp2_with (first | (go_at_call 51; (with_reducible refine (laws_markInt64SS.calls k (fun q => w3.heap.size ≤ q) _ s4 1 t11 l10 w _ HB9.out (Kd.S_lower HG9.out HN3.out) B10.out).mono ?_); rintro e w10 ⟨rfl, hy, hb, hk⟩; have HB10 := Aside0.mk hb; have HS10 := Aside0.mk (Kd.S_step HS9.out (fun q hq hlt => hk.2 q hlt (fun hs => by have := HN23.out; omega))); have HG10 := Aside0.mk hy; clear hy hb hk HS9 HG9))
                have HL10 := Aside0.mk (Kd.S_reads' HG10.out).1
                rw [HL10.out]
                go_wp2_with (first | (go_at_call 52; (with_reducible refine (laws_heldInt64SS.calls k Ao4 co4 l10 1 t11 _ (Kd.S_reads' HG10.out).2.2 (by have z_ := (Kd.S_reads' HG10.out).2.1; rw [HL10.out] at z_; exact z_) B11.out).mono ?_); rintro e w11 ⟨rfl, hd⟩; have hb := DB.out hd; have HB11 := Aside0.mk (below_step HB10.out hb); have HS11 := Aside0.mk (Kd.S_below HS10.out hb); have HG11 := Aside0.mk (Kd.S_below HG10.out hb); clear hd hb HS10 HG10))
                -- once more
                go_wp2_with (first | (go_at_call 16; (with_reducible refine (laws_toInt64S.calls k A0 c0 l0 t1 _ (Kd.C_below HR0.out HB11.out) HC0.out B1.out).mono ?_); rintro e w12 ⟨v12, rfl, ho, hb⟩; have HO12 := Aside0.mk ho; have HB12 := Aside0.mk (below_step HB11.out hb); have HS12 := Aside0.mk (Kd.S_below HS11.out hb); have HG12 := Aside0.mk (Kd.S_below HG11.out hb); clear ho hb HS11 HG11))
                obtain ⟨Ao12, co12, eo12⟩ := Kd.R_slice HO12.out
                subst eo12
                go_wp2_with (first | (go_at_call 49; (with_reducible refine (impl_StretchesAt.calls k Ao12 co12 t1 a1 s4 g4 _ (Kd.R_reads' HO12.out).2.2 (Kd.R_reads' HO12.out).2.1 B4.out).mono ?_); rintro e w13 ⟨v13, rfl, ho, hb⟩; have HO13 := Aside0.mk ho; have HB13 := Aside0.mk (below_step HB12.out hb); have HS13 := Aside0.mk (Kd.S_below HS12.out hb); have HG13 := Aside0.mk (Kd.S_below HG12.out hb); clear ho hb HS12 HG12 HO12))
                obtain ⟨Ao13, co13, eo13⟩ := Kd.S_slice HO13.out
                subst eo13
                go_wp2_with (first | (go_at_call 50; (with_reducible refine (laws_eqInt64SS.calls k Ao13 co13 s4 Ao2 co2 s2 true _ (Kd.S_reads' HO13.out).2.2 (Kd.S_reads' HO13.out).2.1 (Kd.S_reads' HS13.out).2.2 (Kd.S_reads' HS13.out).2.1 B5.out).mono ?_); rintro e w14 ⟨rfl, hd⟩; have hb := DB.out hd; have HB14 := Aside0.mk (below_step HB13.out hb); have HG14 := Aside0.mk (Kd.S_below HG13.out hb); clear hd hb HS13 HG13 HO13))
                go_wp2_with (first | (go_at_call 52; (with_reducible refine (laws_heldInt64SS.calls k Ao4 co4 l10 1 t11 _ (Kd.S_reads' HG14.out).2.2 (by have z_ := (Kd.S_reads' HG14.out).2.1; rw [HL10.out] at z_; exact z_) B11.out).mono ?_); rintro e w15 ⟨rfl, hd⟩; have hb := DB.out hd; have HB15 := Aside0.mk (below_step HB14.out hb); clear hd hb HG14))
                go_ret
                exact ⟨by first | rfl | (simp; done) | (simp [*]; done) | (simp [Int.tdiv_eq_ediv_of_nonneg, *]; done), by repeat (first | (with_reducible first | exact HB15.out | apply below_alloc | apply pw_below_drewN | apply below_drew1) | exact HB15.out)⟩
              · rw [if_neg c12] at h
                exact absurd h (by simp)
        · rw [if_neg c7] at h
          exact absurd h (by simp)
      · rw [if_neg c6] at h
        exact absurd h (by simp)
    · rw [if_neg c5] at h
      exact absurd h (by simp)

/-! THE PURE STATEMENT of laws_FnExactStretchesAt -/
def laws_FnExactStretchesAt.Pure : Prop := ∀ (l0 : List Int) (a1 : Int), Opn.WfL (fun a_ => (Lit.int .i64 a_).wf = true) l0 → (Lit.int .i64 a1).wf = true → ∃ k, laws_FnExactStretchesAt.f k l0 a1 = some true
theorem laws_FnExactStretchesAt.walk (P : laws_FnExactStretchesAt.Pure) (A0 : Option Addr) (c0 : Nat) (l0 : List Int) (a1 : Int) (w : World) (hr0 : Kd.C (Kd.int .i64) w A0 l0.length l0) (hc0 : l0.length ≤ c0) (w0 : Opn.WfL (fun a_ => (Lit.int .i64 a_).wf = true) l0) (w1 : (Lit.int .i64 a1).wf = true) :
    Calls Try.prog 10 #[.slice A0 l0.length c0, .int .i64 a1] w fun e w' => e = .returned (.bool true) ∧ Below w.heap.size w w' := by
  obtain ⟨k, h⟩ := P l0 a1 w0 w1
  refine (laws_FnExactStretchesAt.calls k A0 c0 l0 a1 true w hr0 hc0 h).mono ?_
  rintro e w' ⟨rfl, hd⟩
  exact ⟨rfl, hd⟩

end Go.Proofs.Ytajndapolblhmaa.P
